/- Printed by a program of ours (walk.py): walks of matrices as they are handed in, and of QrTriangles. -/
import Derived.Test.YtllmlkffknodmaaGreatBKb
import Derived.Test.YtllmlkffknodmaaGreatProg
import Derived.KernelRfl
import Derived.Test.YtllmlkffknodmaaGreatBTypes
import Derived.Test.YtllmlkffknodmaaGreatBWRtr10
set_option linter.unusedVariables false
set_option linter.unusedSimpArgs false
set_option maxRecDepth 20000
set_option maxHeartbeats 1000000
namespace Go.Proofs.YtllmlkffknodmaaGreat
open Go Go.Bn
attribute [local irreducible] OpOK
def GoodMs (ms : List Mt) : Prop := (∀ m, m ∈ ms → GoodU m.a) ∧ ms.length * 40 ≤ 140737488355328
theorem goodMs_at {ms : List Mt} (h : GoodMs ms) {k : Nat} (hk : k < ms.length) : GoodU (ms.getD k mtD).a := h.1 _ (mem_getD mtD hk)
theorem goodMs_lt {ms : List Mt} (h : GoodMs ms) : ∀ k, LtL ((ms.map mcn).getD k mtD).a := fun k => by
  by_cases hk : k < ms.length
  · rw [mcn_at hk]; exact ltL_cn2 (goodMs_at h hk).1
  · rw [List.getD, List.getElem?_eq_none (by rw [List.length_map]; omega)]; exact fun j => by show ([] : List Nat).getD j 0 < 2 ^ 64; simp
theorem qall_ok {ms : List Mt} (hb : GoodMs ms) : Ct Tryz.prog 17 [slk 3 mtW ms] (slk 3 mtU (ms.map mcn)) := by
  refine Ct.of Tryz.func17 rfl (by kernel_rfl) rfl fun c0 => ?_
  refine J_lenk 0 rfl fun hlen => ?_
  have hb2 := hb.2
  refine J_seq (J_reg [] (
      .cons (.no) _ _ (op_assign (Lk.k rfl)) <|
      .nil) ff rfl fun g1 => ⟨_, _, [], rfl, (.cons 0 rfl <| .nil), (.nil), ?_⟩)
  refine JN_then ?_
  refine J_seq (J_reg [] (
      .cons (.no) _ _ (op_assign (Lk.k rfl)) <|
      .nil) ff rfl fun g2 => ⟨_, _, [], rfl, (.cons 0 rfl <| .cons 3 rfl <| .nil), (.nil), ?_⟩)
  refine JN_then ?_
  refine J_seq ?_
  refine J_seq (J_reg [] (
      .cons (.no) _ _ (op_assign (Lk.k rfl)) <|
      .nil) ff rfl fun g3 => ⟨_, _, [], rfl, (.cons 0 rfl <| .cons 3 rfl <| .cons 4 rfl <| .nil), (.nil), ?_⟩)
  refine JN_then ?_
  refine J_block ?_
  refine J_to (To.emps 1) ?_
  refine J_loopc (α := Nat × Value) (fun x => x.1 ≤ ms.length) (fun x => ms.length - x.1) (fun x restR => (4, isv (.int .i64 (x.1 : Int))) :: (3, isv x.2) :: restR) (fun x restS => somk x.2 3 mtU ((ms.map mcn).take x.1) 47 :: restS) (ρc := [(0, _)]) (σc := []) (0, .slice none 0 0) (by exact Nat.zero_le _) (To.pick (fun _ => .sub (t := 4) rfl (sp_eq (by rfl)) <| .sub (t := 3) rfl (sp_eq (by rfl)) <| .cons 0 rfl <| .nil) (fun _ => .sub 0 rfl (somk_nil) <| .nil) (ks := [0]) rfl) (fun x hI => ?_)
  obtain ⟨k, sv⟩ := x
  try simp only at hI
  show J _ _ ((4, isv (.int .i64 (k : Int))) :: (3, isv sv) :: _) (somk sv 3 mtU ((ms.map mcn).take k) 47 :: _) _ _
  refine J_seq ?_
  refine J_seq (J_reg [] (
      .cons (.no) _ _ (op_move (Lk.t rfl)) <|
      .cons (.no) _ _ (op_move (Lk.t rfl)) <|
      .cons (.no) _ _ (op_len_sk sl45 (Lk.t rfl)) <|
      .cons (.no) _ _ (op_cmp (by simp) (Lk.t rfl) (Lk.t rfl) rfl) <|
      .nil) ff rfl fun g4 => ⟨_, _, [0], rfl, (.cons 0 rfl <| .cons 3 rfl <| .cons 4 rfl <| .cons 8 rfl <| .nil), (.cons 0 rfl <| .nil), ?_⟩)
  refine JN_then ?_
  refine J_cond (cond_of (Lk.t rfl)) (fun h1 => ?_) (fun h1 => ?_)
  · have h1' := h1
    try simp only [cmpB, Bool.and_eq_true, Bool.or_eq_true, Bool.and_eq_false_iff, Bool.or_eq_false_iff, Bool.not_eq_true', Bool.not_eq_false', Bool.not_eq_true, Bool.not_eq_false, decide_eq_true_eq, decide_eq_false_iff_not, Int.not_lt, Int.not_le, beq_iff_eq, bne_iff_ne, beq_eq_false_iff_ne, bne_eq_false_iff_eq, ne_eq, Decidable.not_not] at h1
    have hgm : GoodU (ms.getD ((k : Nat) : Int).toNat mtD).a := goodMs_at hb (by omega)
    refine J_skip ?_
    refine JN_then ?_
    refine J_seq ?_
    refine J_block ?_
    refine (J_reg [] (
        .cons (.no) _ _ (op_move (Lk.t rfl)) <|
        .cons (.no) _ _ (op_move (Lk.t rfl)) <|
        .cons (.no) _ _ (op_move (Lk.t rfl)) <|
        .cons (.no) _ _ (op_index_sk (mk := mtW) mtD sl45 mtW_len (Lk.t rfl) (Lk.t rfl) (by omega) (by omega)) <|
        .cons (.no) _ _ (op_load_ag ag78 (Lk.t rfl) rfl rfl) <|
        .cons (.no) _ _ (op_call (qof_ok hgm) ⟨(Lk.t rfl),  trivial⟩) <|
        .cons (.no) _ _ (op_buildSlice sl50 zr47 rfl rfl rfl rfl (.cons rfl (Lk.t rfl) co_agg rfl (puts_l rfl (Nat.le_of_ble_eq_true rfl)) .nil)) <|
        .cons (.wr 0) _ _ (op_append_k (mcn (ms.getD ((k : Nat) : Int).toNat mtD)) 0 sl50 zr47 rfl rfl (Lk.t rfl) (Lk.t rfl) rfl (by simp; omega) (by simp; omega)) <|
        .cons (.no) _ _ (op_assign_ve rfl rfl) <|
        .nil) ff rfl fun g5 => ⟨_, _, [0], rfl, (.cons 0 rfl <| .cons 3 rfl <| .cons 4 rfl <| .nil), (.cons 0 rfl <| .nil), ?_⟩)
    refine JN_block ?_
    refine JN_then ?_
    refine (J_reg [] (
        .cons (.no) _ _ (op_move (Lk.t rfl)) <|
        .cons (.no) _ _ (op_add (Lk.t rfl) (Lk.k rfl) (wrap_id (by omega) (by omega))) <|
        .cons (.no) _ _ (op_assign (Lk.t rfl)) <|
        .nil) ff rfl fun g6 => ⟨_, _, [0], rfl, (.cons 0 rfl <| .cons 3 rfl <| .cons 4 rfl <| .nil), (.cons 0 rfl <| .nil), ?_⟩)
    exact JN_again (k + 1, g5 18) (by exact (show k + 1 ≤ ms.length by omega)) (by show ms.length - (_ + 1) < _; omega) (To.pick (fun _ => .sub (t := 4) rfl (sp_eq (by rfl)) <| .sub (t := 3) rfl (sp_eq (by rfl)) <| .cons 0 rfl <| .nil) (fun _ => .sub 0 rfl ((res_eq (by rw [show (ms.map mcn).take (k + 1) = _ from take_mcn (by omega)]; rfl))) <| .nil) (ks := [0]) rfl)
  · have h1' := h1
    try simp only [cmpB, Bool.and_eq_true, Bool.or_eq_true, Bool.and_eq_false_iff, Bool.or_eq_false_iff, Bool.not_eq_true', Bool.not_eq_false', Bool.not_eq_true, Bool.not_eq_false, decide_eq_true_eq, decide_eq_false_iff_not, Int.not_lt, Int.not_le, beq_iff_eq, bne_iff_ne, beq_eq_false_iff_ne, bne_eq_false_iff_eq, ne_eq, Decidable.not_not] at h1
    refine J_exit ?_
    refine JN_then_exit ?_
    refine JN_then_exit ?_
    refine JN_exit_here ?_
    refine JN_then ?_
    refine J_seq (J_reg [] (
        .cons (.no) _ _ (op_move (Lk.t rfl)) <|
        .cons (.no) _ _ (op_assign (Lk.t rfl)) <|
        .nil) ff rfl fun g7 => ⟨_, _, [0], rfl, (.cons 2 rfl <| .nil), (.cons 0 rfl <| .nil), ?_⟩)
    refine JN_then ?_
    refine J_ret ?_
    refine JN_to (To.freeze 0 (fun _ h => h) rfl frz_somk rfl) ?_
    refine JN_ret (.cons (.tmp (Lk.t rfl)) <| .nil) (sb_trans (sb_res1 (sb_fk 0 rfl)) ?_)
    exact sb_eq (by rw [List.take_of_length_le (by simp; omega)])
theorem triangles_ok {ms : List Mt} (hb : GoodMs ms) : Ct Tryz.prog 4 [slk 3 mtW ms] (isv (.bool true)) := by
  refine Ct.of Tryz.func4 rfl (by kernel_rfl) rfl fun c0 => ?_
  have hlt := goodMs_lt hb
  have hEq := rtriM_eq hlt
  refine J_seq (J_reg [] (
      .cons (.no) _ _ (op_assign (Lk.k rfl)) <|
      .nil) ff rfl fun g1 => ⟨_, _, [], rfl, (.cons 0 rfl <| .nil), (.nil), ?_⟩)
  refine JN_then ?_
  refine J_to (To.emps 1) ?_
  refine J_seq (J_reg [] (
      .cons (.no) _ _ (op_move (Lk.t rfl)) <|
      .cons (.no) _ _ (op_call (qall_ok hb) ⟨(Lk.t rfl),  trivial⟩) <|
      .cons (.no) _ _ (op_call (tri_ok hlt) ⟨(Lk.t rfl),  trivial⟩) <|
      .cons (.no) _ _ (op_move (Lk.t rfl)) <|
      .cons (.no) _ _ (op_extract (Lk.t rfl) rfl) <|
      .cons (.no) _ _ (op_extract (Lk.t rfl) rfl) <|
      .cons (.wr 0) _ _ (op_alloc 0 zr47 rfl rfl) <|
      .cons (.wr 0) _ _ (op_store_new 0 rfl (Lk.t rfl) co_agg sz47 rfl rfl) <|
      .cons (.no) _ _ (op_assign (Lk.t rfl)) <|
      .nil) ff rfl fun g2 => ⟨_, _, [0], rfl, (.cons 0 rfl <| .cons 3 rfl <| .cons 4 rfl <| .nil), (.cons 0 rfl <| .nil), ?_⟩)
  refine JN_then ?_
  refine J_to (To.emps 1) ?_
  refine J_seq (J_reg [] (
      .cons (.no) _ _ (op_move (Lk.t rfl)) <|
      .cons (.no) _ _ (op_call (qall_ok hb) ⟨(Lk.t rfl),  trivial⟩) <|
      .cons (.no) _ _ (op_call (rtri_ok hlt) ⟨(Lk.t rfl),  trivial⟩) <|
      .cons (.no) _ _ (op_move (Lk.t rfl)) <|
      .cons (.no) _ _ (op_extract (Lk.t rfl) rfl) <|
      .cons (.no) _ _ (op_extract (Lk.t rfl) rfl) <|
      .cons (.wr 1) _ _ (op_alloc 1 zr47 rfl rfl) <|
      .cons (.wr 1) _ _ (op_store_new 1 rfl (Lk.t rfl) co_agg sz47 rfl rfl) <|
      .cons (.no) _ _ (op_assign (Lk.t rfl)) <|
      .nil) ff rfl fun g3 => ⟨_, _, [0, 1], rfl, (.cons 3 rfl <| .cons 4 rfl <| .cons 5 rfl <| .cons 6 rfl <| .nil), (.cons 0 rfl <| .cons 1 rfl <| .nil), ?_⟩)
  refine JN_then ?_
  refine J_seq (J_reg [] (
      .cons (.rd 0) _ _ (op_get_ag 0 ag47 (Lk.t rfl) rfl mem_blk rfl rfl) <|
      .cons (.rd 1) _ _ (op_get_ag 1 ag47 (Lk.t rfl) rfl mem_blk rfl rfl) <|
      .cons (.no) _ _ (op_call (qtold_ok) ⟨(Lk.t rfl), (Lk.t rfl),  trivial⟩) <|
      .cons (.no) _ _ (op_move (Lk.t rfl)) <|
      .cons (.no) _ _ (op_guard rfl rfl (gd_b rfl) (fun hC => (op_move (Lk.t rfl)))) <|
      .cons (.no) _ _ (op_guard rfl rfl (gd_b rfl) (fun hC => (op_move (Lk.t rfl)))) <|
      .cons (.no) _ _ (op_guard rfl rfl (gd_b rfl) (fun hC => (op_cmp (by simp) (Lk.w rfl hC) (Lk.w rfl hC) rfl))) <|
      .cons (.no) _ _ (op_and (Lk.t rfl) (fun h2 => (Lk.w rfl h2))) <|
      .cons (.no) _ _ (op_move (Lk.t rfl)) <|
      .cons (.no) _ _ (op_guard rfl rfl (gd_b rfl) (fun hC => (op_call (awake_ok) trivial))) <|
      .cons (.no) _ _ (op_and (Lk.t rfl) (fun h2 => (Lk.w rfl h2))) <|
      .cons (.no) _ _ (op_assign (Lk.t rfl)) <|
      .nil) ff rfl fun g4 => ⟨_, _, [], rfl, (.cons 2 rfl <| .nil), (.nil), ?_⟩)
  refine JN_then ?_
  refine J_ret ?_
  refine JN_ret (.cons (.tmp (Lk.t rfl)) <| .nil) (sb_trans (sb_res1 sb_refl) ?_)
  exact ret_b (by rw [hEq]; simp [cmpB])
end Go.Proofs.YtllmlkffknodmaaGreat
