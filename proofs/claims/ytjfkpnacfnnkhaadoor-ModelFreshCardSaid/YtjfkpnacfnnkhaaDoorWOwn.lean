/- Printed by a program of ours (walk.py): walks of what is answered to be written into, and of places. -/
import Derived.Test.YtjfkpnacfnnkhaaDoorKb
import Derived.Test.YtjfkpnacfnnkhaaDoorProg
import Derived.KernelRfl
import Derived.Test.YtjfkpnacfnnkhaaDoorTypes
import Derived.Test.YtjfkpnacfnnkhaaDoorWRef8
import Derived.Test.YtjfkpnacfnnkhaaDoorKc
set_option linter.unusedVariables false
set_option linter.unusedSimpArgs false
set_option maxRecDepth 20000
set_option maxHeartbeats 1000000
namespace Go.Proofs.YtjfkpnacfnnkhaaDoor
open Go Go.Bn
attribute [local irreducible] OpOK
theorem of64F_ok {bs : List Nat} (hb : ∀ b, b ∈ bs → b < 2 ^ 64) (hl : bs.length * 8 ≤ 140737488355328) : CtF Tryd.prog 6 [wsl bs] (id) (fun u => isv u) (fun u => som u flp (bs.map cn) 37) := by
  refine CtF.of Tryd.func6 rfl (by kernel_rfl) rfl fun c0 => ?_
  refine J_seq (J_reg [] (
      .cons (.no) _ _ (op_assign (Lk.k rfl)) <|
      .nil) ff rfl fun g1 => ⟨_, _, [], rfl, (.cons 0 rfl <| .nil), (.nil), ?_⟩)
  refine JN_then ?_
  refine J_seq (J_reg [] (
      .cons (.no) _ _ (op_assign (Lk.k rfl)) <|
      .nil) ff rfl fun g2 => ⟨_, _, [], rfl, (.cons 0 rfl <| .cons 3 rfl <| .nil), (.nil), ?_⟩)
  refine JN_then ?_
  refine J_seq ?_
  refine J_seq (J_reg [] (
      .cons (.no) _ _ (op_move (Lk.t rfl)) <|
      .cons (.no) _ _ (op_len_m sl23 (Lk.t rfl)) <|
      .cons (.no) _ _ (op_move (Lk.k rfl)) <|
      .nil) ff rfl fun g3 => ⟨_, _, [], rfl, (.cons 3 rfl <| .cons 6 rfl <| .cons 7 rfl <| .cons 8 rfl <| .nil), (.nil), ?_⟩)
  refine JN_then ?_
  refine J_block ?_
  refine J_to (To.emps 1) ?_
  refine J_loopc (α := Nat × Value) (fun x => x.1 ≤ bs.length) (fun x => bs.length - x.1) (fun x restR => (8, isv (.int .i64 (x.1 : Int))) :: (3, isv x.2) :: restR) (fun x restS => som x.2 flp ((bs.map cn).take x.1) 37 :: restS) (ρc := [(6, _), (7, _)]) (σc := []) (0, .slice none 0 0) (by exact Nat.zero_le _) (To.pick (fun _ => .sub (t := 8) rfl (sp_eq (by rfl)) <| .sub (t := 3) rfl (sp_eq (by rfl)) <| .cons 6 rfl <| .cons 7 rfl <| .nil) (fun _ => .sub 0 rfl (som_nil) <| .nil) (ks := [0]) rfl) (fun x hI => ?_)
  obtain ⟨k, sv⟩ := x
  try simp only at hI
  show J _ _ ((8, isv (.int .i64 (k : Int))) :: (3, isv sv) :: _) (som sv flp ((bs.map cn).take k) 37 :: _) _ _
  refine J_seq (J_reg [] (
      .cons (.no) _ _ (op_cmp (by simp) (Lk.t rfl) (Lk.t rfl) rfl) <|
      .nil) ff rfl fun g4 => ⟨_, _, [0], rfl, (.cons 3 rfl <| .cons 6 rfl <| .cons 7 rfl <| .cons 8 rfl <| .cons 9 rfl <| .nil), (.cons 0 rfl <| .nil), ?_⟩)
  refine JN_then ?_
  refine J_seq ?_
  refine J_cond (cond_of (Lk.t rfl)) (fun h1 => ?_) (fun h1 => ?_)
  · have h1' := h1
    try simp only [cmpB, Bool.and_eq_true, Bool.or_eq_true, Bool.and_eq_false_iff, Bool.or_eq_false_iff, Bool.not_eq_true', Bool.not_eq_false', Bool.not_eq_true, Bool.not_eq_false, decide_eq_true_eq, decide_eq_false_iff_not, Int.not_lt, Int.not_le, beq_iff_eq, bne_iff_ne, beq_eq_false_iff_ne, bne_eq_false_iff_eq, ne_eq, Decidable.not_not] at h1
    refine J_skip ?_
    refine JN_then ?_
    refine J_seq ?_
    refine J_block ?_
    refine J_seq (J_reg [] (
        .cons (.no) _ _ (op_index_m 0 sl23 (Lk.t rfl) (Lk.t rfl) (by omega) (by omega)) <|
        .cons (.no) _ _ (op_load_sc sc24 (Lk.t rfl) rfl) <|
        .cons (.no) _ _ (op_assign (Lk.t rfl)) <|
        .nil) ff rfl fun g5 => ⟨_, _, [0], rfl, (.cons 3 rfl <| .cons 5 rfl <| .cons 6 rfl <| .cons 7 rfl <| .cons 8 rfl <| .nil), (.cons 0 rfl <| .nil), ?_⟩)
    refine JN_then ?_
    refine (J_reg [] (
        .cons (.no) _ _ (op_move (Lk.t rfl)) <|
        .cons (.no) _ _ (op_move (Lk.t rfl)) <|
        .cons (.no) _ _ (op_f64from fromX (hb _ (mem_getD 0 (by omega))) (Lk.t rfl)) <|
        .cons (.no) _ _ (op_buildSlice sl32 zr37 rfl rfl rfl rfl (.cons rfl (Lk.t rfl) co_flp rfl (puts_l rfl (Nat.le_of_ble_eq_true rfl)) .nil)) <|
        .cons (.wr 0) _ _ (op_append_m 0 sl32 zr37 rfl (Lk.t rfl) (Lk.t rfl) rfl (by simp; omega) (by simp; omega)) <|
        .cons (.no) _ _ (op_assign_ve rfl rfl) <|
        .nil) ff rfl fun g6 => ⟨_, _, [0], rfl, (.cons 3 rfl <| .cons 6 rfl <| .cons 7 rfl <| .cons 8 rfl <| .nil), (.cons 0 rfl <| .nil), ?_⟩)
    refine JN_block ?_
    refine JN_then ?_
    refine (J_reg [] (
        .cons (.no) _ _ (op_add (Lk.t rfl) (Lk.k rfl) (wrap_id (by omega) (by omega))) <|
        .cons (.no) _ _ (op_move (Lk.t rfl)) <|
        .nil) ff rfl fun g7 => ⟨_, _, [0], rfl, (.cons 3 rfl <| .cons 6 rfl <| .cons 7 rfl <| .cons 8 rfl <| .nil), (.cons 0 rfl <| .nil), ?_⟩)
    exact JN_again (k + 1, g6 16) (by exact (show k + 1 ≤ bs.length by omega)) (by show bs.length - (_ + 1) < _; omega) (To.pick (fun _ => .sub (t := 8) rfl (sp_eq (by rfl)) <| .sub (t := 3) rfl (sp_eq (by rfl)) <| .cons 6 rfl <| .cons 7 rfl <| .nil) (fun _ => .sub 0 rfl ((res_eq (by have e := take_snoc (xs := bs.map cn) 0 (k := k) (by rw [List.length_map]; omega); show som _ flp _ _ = som _ flp ((bs.map cn).take (k + 1)) _; rw [e]; congr 2; simp [List.getD, List.getElem?_map, List.getElem?_eq_getElem (show k < bs.length by omega)]))) <| .nil) (ks := [0]) rfl)
  · have h1' := h1
    try simp only [cmpB, Bool.and_eq_true, Bool.or_eq_true, Bool.and_eq_false_iff, Bool.or_eq_false_iff, Bool.not_eq_true', Bool.not_eq_false', Bool.not_eq_true, Bool.not_eq_false, decide_eq_true_eq, decide_eq_false_iff_not, Int.not_lt, Int.not_le, beq_iff_eq, bne_iff_ne, beq_eq_false_iff_ne, bne_eq_false_iff_eq, ne_eq, Decidable.not_not] at h1
    refine J_exit ?_
    refine JN_then_exit ?_
    refine JN_then_exit ?_
    refine JN_exit_here ?_
    refine JN_then ?_
    refine J_seq (J_reg [] (
        .cons (.no) _ _ (op_move (Lk.t rfl)) <|
        .cons (.no) _ _ (op_assign (Lk.t rfl)) <|
        .nil) ff rfl fun g8 => ⟨_, _, [0], rfl, (.cons 2 rfl <| .nil), (.cons 0 rfl <| .nil), ?_⟩)
    refine JN_then ?_
    refine J_ret ?_
    refine JN_to (To.res 0 (r' := som sv flp (bs.map cn) 37) rfl (res_eq (by rw [List.take_of_length_le (by simp; omega)])) rfl) ?_
    refine JN_retF (u := sv) 0 rfl rfl (.tmp (Lk.t rfl)) (fun _ _ h => h.1) ?_
    exact sb_refl
end Go.Proofs.YtjfkpnacfnnkhaaDoor
