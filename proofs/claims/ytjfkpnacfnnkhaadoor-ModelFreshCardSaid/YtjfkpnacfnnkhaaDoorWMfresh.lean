/- Printed by a program of ours (walk.py): the walk of ModelFresh. -/
import Derived.Test.YtjfkpnacfnnkhaaDoorKb
import Derived.Test.YtjfkpnacfnnkhaaDoorProg
import Derived.KernelRfl
import Derived.Test.YtjfkpnacfnnkhaaDoorTypes
import Derived.Test.YtjfkpnacfnnkhaaDoorWAns2
set_option linter.unusedVariables false
set_option linter.unusedSimpArgs false
set_option maxRecDepth 20000
set_option maxHeartbeats 1000000
namespace Go.Proofs.YtjfkpnacfnnkhaaDoor
open Go Go.Bn
attribute [local irreducible] OpOK
theorem J_som {X : Cx} {Γ : Facts} {ρ : Env} {σ : List Res} {code : Code} {Q : Exit → Act → World → Prop} {α : Type} {mk : α → SP} {u : Value} {xs : List α} {T : TypeId} (k : Nat) (hk : nth σ k = some (som u mk xs T)) (h : xs.length ≤ 9223372036854775807 → J X Γ ρ σ code Q) : J X Γ ρ σ code Q := fun a c hs => by
  obtain ⟨obs, hown, hres⟩ := hs.own
  obtain ⟨_, h2⟩ := hres k _ hk
  refine h ?_ a c hs
  rcases h2 with ⟨_, h3, _⟩ | ⟨b, cap, cur, h3, h4, h5, h6, _⟩
  · omega
  · exact Nat.le_trans h5 (Nat.le_trans h6 (by decide))
theorem tolB_s {r c e : Int} {xs : List Nat} : tolB r c xs e r c xs e = true := by unfold tolB; simp
def p77 : Prt := ⟨77, 0, 0, 0⟩
def frX3 (a b c : List Nat) : Nat → List Nat := fun j => [a, b, c].getD j []
theorem frX3_le {a b c : List Nat} {n : Nat} (ha : a.length ≤ n) (hb : b.length ≤ n) (hc : c.length ≤ n) {i : Nat} : (frX3 a b c i).length ≤ n := by
  match i with
  | 0 => exact ha
  | 1 => exact hb
  | 2 => exact hc
  | k + 3 => exact Nat.zero_le _
theorem pure_ti {u : Value} {z : Int} : (tupp [isv u, isv (.int .i64 z)]).Pure := fun v c c' ⟨vs, h1, h2⟩ => ⟨vs, h1, by match vs, h2 with | [a, b], ⟨q1, q2, q3⟩ => exact ⟨q1, q2, q3⟩⟩
theorem mfresh_ok {ls : List Prt} {t i r c : Int} {hs rs xs : List Nat} {q : Nat} {es : List Int} (hl : GoodL ls) (hh : GoodU hs) (hr : GoodU rs) (hq : q < 2 ^ 64) (hx : GoodU xs) (he : (∀ z, z ∈ es → (Lit.int .i64 z).wf = true) ∧ es.length * 8 ≤ 140737488351232) : Ct Tryd.prog 3 [slk 4 prtU ls, isv (.int .i64 t), SenU i r c hs rs q, wsl xs, ils .i64 es] (isv (.bool true)) := by
  refine Ct.of Tryd.func3 rfl (by kernel_rfl) rfl fun c0 => ?_
  have he2 := he.2
  have hl2 := hl.2
  have hnm := names_len (ps := (ls.map pcn))
  refine J_to (To.emps 1) ?_
  refine J_seq (J_reg [] (
      .cons (.wr 0) _ _ (op_box 0 (Lk.t rfl) co_agg rfl) <|
      .cons (.no) _ _ (op_assign (Lk.k rfl)) <|
      .nil) ff rfl fun g1 => ⟨_, _, [0], rfl, (.cons 0 rfl <| .cons 1 rfl <| .cons 3 rfl <| .cons 4 rfl <| .cons 7 rfl <| .nil), (.cons 0 rfl <| .nil), ?_⟩)
  refine JN_then ?_
  refine J_to (To.emps 6) ?_
  refine J_seq (J_reg [[], [0], [], [0, 1, 2], [], [0, 1, 2, 3, 4], [], [], [0, 1, 2, 3, 4, 5, 6, 7], [], [], [0, 1, 2, 3, 4, 5, 6, 7, 8, 9, 10], [0, 1, 2, 3, 4, 5, 6, 7, 8, 9, 10, 11], [0, 1, 2, 3, 4, 5, 6, 7, 8, 9, 10, 11, 12], [0, 1, 2, 3, 4, 5, 6, 7, 8, 9, 10, 11, 12, 13]] (
      .cons (.no) _ _ (op_move (Lk.t rfl)) <|
      .cons (.wr 1) _ _ (op_callF 1 (motionF_ok hl) ⟨(Lk.t rfl),  trivial⟩ rfl) <|
      .cons (.rd 0) _ _ (op_get_ag 0 ag26 (Lk.t rfl) rfl mem_blk rfl rfl) <|
      .cons (.wr 2) _ _ (op_callF 2 (sensorF_ok hh hr hq) ⟨(Lk.t rfl),  trivial⟩ rfl) <|
      .cons (.no) _ _ (op_move (Lk.t rfl)) <|
      .cons (.wr 3) _ _ (op_callF 3 (of64F_ok hx.1 hx.2) ⟨(Lk.t rfl),  trivial⟩ rfl) <|
      .cons (.wr 4) _ _ (op_build0 (mk := inp .i64) 4 sl27 rfl) <|
      .cons (.no) _ _ (op_move (Lk.t rfl)) <|
      .cons (.wr 4) _ _ (op_vr 39 4 rfl rfl (fun u => (op_append_ms 4 sl27 zr3 rfl (Lk.t rfl) (Lk.t rfl) rfl (by simp; omega) (by simp; omega)))) <|
      .cons (.wr 5) _ _ (op_alloc 5 zr30 rfl rfl) <|
      .cons (.wr 6) _ _ (op_alloc 6 zr39 rfl rfl) <|
      .cons (.wr 5) _ _ (op_store_new_ve 5 rfl rfl rfl (fun f => co_agg) (fun f g h => by rw [h 34 (show 34 ∈ [34] from by decide)]) (fun _ => sz30) rfl (fun _ => rfl) rfl) <|
      .cons (.wr 6) _ _ (op_store_new_ve 6 rfl rfl rfl (fun f => co_agg) (fun f g h => by rw [h 36 (show 36 ∈ [36] from by decide)]) (fun _ => sz39) rfl (fun _ => rfl) rfl) <|
      .cons (.no) _ _ (op_assign_ve rfl rfl) <|
      .cons (.no) _ _ (op_assign_ve rfl rfl) <|
      .nil) (fun _ => mixed) rfl fun g2 => ⟨_, _, [0, 1, 2, 3, 4, 5, 6], rfl, (.cons 0 rfl <| .cons 1 rfl <| .cons 3 rfl <| .cons 4 rfl <| .cons 7 rfl <| .cons 11 rfl <| .cons 12 rfl <| .cons 13 rfl <| .cons 14 rfl <| .nil), (.cons 0 rfl <| .cons 1 rfl <| .cons 2 rfl <| .cons 3 rfl <| .cons 4 rfl <| .cons 5 rfl <| .cons 6 rfl <| .nil), ?_⟩)
  refine JN_then ?_
  refine J_to (To.res 4 (r' := som (g2 41) (inp .i64) es 3) rfl (res_eq rfl) rfl) ?_
  refine J_to (To.join 2 1 rfl rfl rfl rfl) ?_
  refine J_to (To.join 2 3 rfl rfl rfl rfl) ?_
  refine J_to (To.join 2 4 rfl rfl rfl rfl) ?_
  refine J_seq (J_reg [] (
      .cons (.rd 5) _ _ (op_get_ag 5 ag30 (Lk.t rfl) rfl mem_blk rfl rfl) <|
      .cons (.no) _ _ (op_move (Lk.t rfl)) <|
      .cons (.rd 6) _ _ (op_get_ag 6 ag39 (Lk.t rfl) rfl mem_blk rfl rfl) <|
      .cons (.no) _ _ (op_move (Lk.t rfl)) <|
      .cons (.no) _ _ (op_move (Lk.t rfl)) <|
      .cons (.rd 2) _ _ (op_callLN 2 (ansN_ok) ⟨.inr ⟨_, Lk.t rfl, lent_mot (lent_l (lent_l (lent_r lent_somk)))⟩, .inl (Lk.t rfl), .inr ⟨_, Lk.t rfl, lent_sen (lent_l (lent_l (lent_l (lent_l lent_som)))) (lent_l (lent_l (lent_l (lent_r lent_som))))⟩, .inr ⟨_, (Lk.t rfl), (lent_l (lent_r lent_som))⟩, .inr ⟨_, (Lk.t rfl), (lent_r lent_som)⟩,  trivial⟩ rfl) <|
      .cons (.no) _ _ (op_assign (Lk.t rfl)) <|
      .nil) ff rfl fun g3 => ⟨_, _, [0, 2, 5, 6], rfl, (.cons 0 rfl <| .cons 1 rfl <| .cons 3 rfl <| .cons 4 rfl <| .cons 7 rfl <| .cons 11 rfl <| .cons 12 rfl <| .cons 13 rfl <| .cons 14 rfl <| .cons 15 rfl <| .nil), (.cons 0 rfl <| .cons 2 rfl <| .cons 5 rfl <| .cons 6 rfl <| .nil), ?_⟩)
  refine JN_then ?_
  refine J_to (To.emps 1) ?_
  refine J_seq (J_reg [] (
      .cons (.rd 2) _ _ (op_get_ag 2 ag30 (Lk.t rfl) rfl mem_blk rfl rfl) <|
      .cons (.wr 1) _ _ (op_callLF 1 (mnamesF_ok) (fun _ => pure_ti) (fun _ => pure_som pure_strp) ⟨.inr ⟨_, Lk.t rfl, lent_mot (lent_l (lent_l (lent_r lent_somk)))⟩,  trivial⟩ rfl) <|
      .cons (.no) _ _ (op_move_ve rfl rfl) <|
      .cons (.no) _ _ (op_ve 48 51 rfl rfl rfl (fun f => op_extract (Lk.t rfl) rfl) (fun f g h => by first | rfl | rw [h 50 (show 50 ∈ [50] from by decide)]) rfl) <|
      .cons (.no) _ _ (op_ve 48 52 rfl rfl rfl (fun f => op_extract (Lk.t rfl) rfl) (fun f g h => by first | rfl | rw [h 50 (show 50 ∈ [50] from by decide)]) rfl) <|
      .cons (.no) _ _ (op_assign_ve rfl rfl) <|
      .cons (.no) _ _ (op_assign_ve rfl rfl) <|
      .nil) ff rfl fun g4 => ⟨_, _, [0, 1, 2, 3], rfl, (.cons 0 rfl <| .cons 1 rfl <| .cons 3 rfl <| .cons 4 rfl <| .cons 7 rfl <| .cons 11 rfl <| .cons 12 rfl <| .cons 13 rfl <| .cons 14 rfl <| .cons 15 rfl <| .cons 16 rfl <| .nil), (.cons 0 rfl <| .cons 1 rfl <| .cons 2 rfl <| .cons 3 rfl <| .nil), ?_⟩)
  refine JN_then ?_
  refine J_seq ?_
  refine J_to (To.emps 5) ?_
  refine J_to (To.split 1 4 rfl rfl rfl rfl) ?_
  refine J_to (To.split 1 5 rfl rfl rfl rfl) ?_
  refine J_to (To.split 1 6 rfl rfl rfl rfl) ?_
  refine J_to (To.split 1 7 rfl rfl rfl rfl) ?_
  refine J_to (To.split 1 8 rfl rfl rfl rfl) ?_
  refine J_seq (J_reg [[], [0], [0, 1], [], [3], [3, 4], [0, 1, 2, 3, 4, 5], [0, 1, 2, 3, 4, 5, 6], [0, 1, 2, 3, 4, 5, 6, 7], [0, 1, 2, 3, 4, 5, 6, 7, 8], [0, 1, 2, 3, 4, 5, 6, 7, 8, 9], [0, 1, 2, 3, 4, 5, 6, 7, 8], [0, 1, 2, 3, 4, 5, 6, 7, 8, 11], [0, 1, 2, 3, 4, 5, 6, 7, 8, 11, 12], [0, 1, 2, 3, 4, 5, 6, 7, 8, 9, 10, 11, 12, 13], [0, 1, 2, 3, 4, 5, 6, 7, 8, 9, 10, 11, 12, 13, 14], [0, 1, 2, 3, 4, 5, 6, 7, 8, 9, 10, 11, 12, 13, 14, 15], [0, 1, 2, 3, 4, 5, 6, 7, 8, 9, 10, 11, 12, 13, 14, 15, 16], [0, 1, 2, 3, 4, 5, 6, 7, 8, 9, 10, 11, 12, 13, 14, 15, 16, 17], [0, 1, 2, 3, 4, 5, 6, 7, 8, 9, 10, 11, 12, 13, 14, 15, 16, 17], [0, 1, 2, 3, 4, 5, 6, 7, 8, 9, 10, 11, 12, 13, 14, 15, 16, 17, 19], [0, 1, 2, 3, 4, 5, 6, 7, 8, 9, 10, 11, 12, 13, 14, 15, 16, 17, 18, 19, 20], [0, 1, 2, 3, 4, 5, 6, 7, 8, 9, 10, 11, 12, 13, 14, 15, 16, 17, 18, 19, 20, 21], [0, 1, 2, 3, 4, 5, 6, 7, 8, 9, 10, 11, 12, 13, 14, 15, 16, 17, 18, 19, 20, 21, 22], [0, 1, 2, 3, 4, 5, 6, 7, 8, 9, 10, 11, 12, 13, 14, 15, 16, 17, 18, 19, 20, 21, 22, 23], [0, 1, 2, 3, 4, 5, 6, 7, 8, 9, 10, 11, 12, 13, 14, 15, 16, 17, 18, 19, 20, 21, 22, 23, 24], [0, 1, 2, 3, 4, 5, 6, 7, 8, 9, 10, 11, 12, 13, 14, 15, 16, 17, 18, 19, 20, 21, 22, 23, 24, 25], [0, 1, 2, 3, 4, 5, 6, 7, 8, 9, 10, 11, 12, 13, 14, 15, 16, 17, 18, 19, 20, 21, 22, 23, 24, 25, 26]] (
      .cons (.no) _ _ (op_field_own fd39_1 (Lk.t rfl) rfl) <|
      .cons (.no) _ _ (op_field_own fd34_2 (Lk.t rfl) rfl) <|
      .cons (.rd 3) _ _ (op_get_sc 3 sc32 (Lk.t rfl) rfl mem_blk rfl) <|
      .cons (.no) _ _ (op_field_own fd26_3 (Lk.t rfl) rfl) <|
      .cons (.rd 0) _ _ (op_get_sc 0 sc23 (Lk.t rfl) rfl mem_blk rfl) <|
      .cons (.no) _ _ (op_call (of64_ok hh.1 hh.2) ⟨(Lk.t rfl),  trivial⟩) <|
      .cons (.rd 1) _ _ (op_callL 1 (slist_ok) (pure_isv _) ⟨.inr ⟨_, (Lk.t rfl), lent_som⟩, .inl (Lk.t rfl),  trivial⟩ rfl) <|
      .cons (.no) _ _ (op_not (Lk.t rfl)) <|
      .cons (.no) _ _ (op_move (Lk.t rfl)) <|
      .cons (.no) _ _ (op_guard rfl rfl (gd_b rfl) (fun hC => (op_field_own fd39_2 (Lk.t rfl) rfl))) <|
      .cons (.rd 3) _ _ (op_guard rfl rfl (gd_b rfl) (fun hC => (op_get_sc 3 sc32 (Lk.w rfl hC) rfl mem_blk rfl))) <|
      .cons (.no) _ _ (op_guard rfl rfl (gd_b rfl) (fun hC => (op_field_own fd26_4 (Lk.t rfl) rfl))) <|
      .cons (.rd 0) _ _ (op_guard rfl rfl (gd_b rfl) (fun hC => (op_get_sc 0 sc23 (Lk.w rfl hC) rfl mem_blk rfl))) <|
      .cons (.no) _ _ (op_guard rfl rfl (gd_b rfl) (fun hC => (op_call (of64_ok hr.1 hr.2) ⟨(Lk.w rfl hC),  trivial⟩))) <|
      .cons (.rd 8) _ _ (op_guard rfl rfl (gd_b rfl) (fun hC => (op_callL 8 (slist_ok) (pure_isv _) ⟨.inr ⟨_, (Lk.w rfl hC), lent_som⟩, .inl (Lk.w rfl hC),  trivial⟩ rfl))) <|
      .cons (.no) _ _ (op_guard rfl rfl (gd_b rfl) (fun hC => (op_not (Lk.w rfl hC)))) <|
      .cons (.no) _ _ (op_or (Lk.t rfl) (fun h2 => (Lk.w rfl h2))) <|
      .cons (.no) _ _ (op_move (Lk.t rfl)) <|
      .cons (.no) _ _ (op_guard rfl rfl (gd_b rfl) (fun hC => (op_move (Lk.t rfl)))) <|
      .cons (.no) _ _ (op_guard rfl rfl (gd_b rfl) (fun hC => (op_move (Lk.t rfl)))) <|
      .cons (.no) _ _ (op_guard rfl rfl (gd_b rfl) (fun hC => (op_call (of64_ok hx.1 hx.2) ⟨(Lk.w rfl hC),  trivial⟩))) <|
      .cons (.rd 6) _ _ (op_guard rfl rfl (gd_b rfl) (fun hC => (op_callL 6 (slist_ok) (pure_isv _) ⟨.inr ⟨_, (Lk.w rfl hC), lent_som⟩, .inl (Lk.w rfl hC),  trivial⟩ rfl))) <|
      .cons (.no) _ _ (op_guard rfl rfl (gd_b rfl) (fun hC => (op_not (Lk.w rfl hC)))) <|
      .cons (.no) _ _ (op_or (Lk.t rfl) (fun h2 => (Lk.w rfl h2))) <|
      .cons (.no) _ _ (op_move (Lk.t rfl)) <|
      .cons (.no) _ _ (op_guard rfl rfl (gd_b rfl) (fun hC => (op_call (awake_ok) trivial))) <|
      .cons (.no) _ _ (op_guard rfl rfl (gd_b rfl) (fun hC => (op_not (Lk.w rfl hC)))) <|
      .cons (.no) _ _ (op_or (Lk.t rfl) (fun h2 => (Lk.w rfl h2))) <|
      .nil) (fun _ => mixed) rfl fun g5 => ⟨_, _, [0, 1, 2, 3, 4, 5, 6, 7, 8], rfl, (.cons 0 rfl <| .cons 1 rfl <| .cons 3 rfl <| .cons 4 rfl <| .cons 7 rfl <| .cons 11 rfl <| .cons 12 rfl <| .cons 13 rfl <| .cons 14 rfl <| .cons 15 rfl <| .cons 16 rfl <| .cons 80 rfl <| .nil), (.cons 0 rfl <| .cons 1 rfl <| .cons 2 rfl <| .cons 3 rfl <| .cons 4 rfl <| .cons 5 rfl <| .cons 6 rfl <| .cons 7 rfl <| .cons 8 rfl <| .nil), ?_⟩)
  refine JN_then ?_
  refine J_cond (cond_of (Lk.t rfl)) (fun h1 => ?_) (fun h1 => ?_)
  · have h1' := h1
    try simp only [cmpB, Bool.and_eq_true, Bool.or_eq_true, Bool.and_eq_false_iff, Bool.or_eq_false_iff, Bool.not_eq_true', Bool.not_eq_false', Bool.not_eq_true, Bool.not_eq_false, decide_eq_true_eq, decide_eq_false_iff_not, Int.not_lt, Int.not_le, beq_iff_eq, bne_iff_ne, beq_eq_false_iff_ne, bne_eq_false_iff_eq, ne_eq, Decidable.not_not] at h1
    exact absurd h1' (by simp)
  · have h1' := h1
    try simp only [cmpB, Bool.and_eq_true, Bool.or_eq_true, Bool.and_eq_false_iff, Bool.or_eq_false_iff, Bool.not_eq_true', Bool.not_eq_false', Bool.not_eq_true, Bool.not_eq_false, decide_eq_true_eq, decide_eq_false_iff_not, Int.not_lt, Int.not_le, beq_iff_eq, bne_iff_ne, beq_eq_false_iff_ne, bne_eq_false_iff_eq, ne_eq, Decidable.not_not] at h1
    refine J_skip ?_
    refine JN_then ?_
    refine J_seq ?_
    refine J_seq (J_reg [] (
        .cons (.no) _ _ (op_assign (Lk.k rfl)) <|
        .nil) ff rfl fun g6 => ⟨_, _, [0, 1, 2, 3, 4, 5, 6, 7, 8], rfl, (.cons 0 rfl <| .cons 1 rfl <| .cons 3 rfl <| .cons 4 rfl <| .cons 7 rfl <| .cons 11 rfl <| .cons 12 rfl <| .cons 13 rfl <| .cons 14 rfl <| .cons 15 rfl <| .cons 16 rfl <| .cons 18 rfl <| .nil), (.cons 0 rfl <| .cons 1 rfl <| .cons 2 rfl <| .cons 3 rfl <| .cons 4 rfl <| .cons 5 rfl <| .cons 6 rfl <| .cons 7 rfl <| .cons 8 rfl <| .nil), ?_⟩)
    refine JN_then ?_
    refine J_block ?_
    refine J_loopc (α := Nat) (fun k => k ≤ (ls.map pcn).length) (fun k => (ls.map pcn).length - k) (fun k restR => (18, isv (.int .i64 (k : Int))) :: restR) (fun k restS => somk (agN 0 (g2 34)) 4 prtC (putV p77 (ls.map pcn) k) 51 :: restS) (ρc := [(0, _), (1, _), (3, _), (4, _), (7, _), (11, _), (12, _), (13, _), (14, _), (15, _), (16, _)]) (σc := [_, _, _, _, _, _, _, _]) 0 (by exact Nat.zero_le _) (To.pick (fun _ => .sub (t := 18) rfl (sp_eq (by rfl)) <| .cons 0 rfl <| .cons 1 rfl <| .cons 3 rfl <| .cons 4 rfl <| .cons 7 rfl <| .cons 11 rfl <| .cons 12 rfl <| .cons 13 rfl <| .cons 14 rfl <| .cons 15 rfl <| .cons 16 rfl <| .nil) (fun _ => .sub 7 rfl ((res_eq rfl)) <| .cons 0 rfl <| .cons 1 rfl <| .cons 2 rfl <| .cons 3 rfl <| .cons 4 rfl <| .cons 5 rfl <| .cons 6 rfl <| .cons 8 rfl <| .nil) (ks := [7, 0, 1, 2, 3, 4, 5, 6, 8]) rfl) (fun k hI => ?_)
    have hpl := length_putV (v := p77) (xs := (ls.map pcn)) hI
    have hml : (ls.map pcn).length = ls.length := List.length_map _
    refine J_seq ?_
    refine J_seq (J_reg [] (
        .cons (.no) _ _ (op_move (Lk.t rfl)) <|
        .cons (.no) _ _ (op_field_own fd30_0 (Lk.t rfl) rfl) <|
        .cons (.rd 3) _ _ (op_get_sc 3 sc28 (Lk.t rfl) rfl mem_blk rfl) <|
        .cons (.rd 0) _ _ (op_len_sm 0 sl28 (Lk.t rfl) rfl) <|
        .cons (.no) _ _ (op_cmp (by simp) (Lk.t rfl) (Lk.t rfl) rfl) <|
        .nil) ff rfl fun g7 => ⟨_, _, [0, 1, 2, 3, 4, 5, 6, 7, 8], rfl, (.cons 0 rfl <| .cons 1 rfl <| .cons 3 rfl <| .cons 4 rfl <| .cons 7 rfl <| .cons 11 rfl <| .cons 12 rfl <| .cons 13 rfl <| .cons 14 rfl <| .cons 15 rfl <| .cons 16 rfl <| .cons 18 rfl <| .cons 85 rfl <| .nil), (.cons 0 rfl <| .cons 1 rfl <| .cons 2 rfl <| .cons 3 rfl <| .cons 4 rfl <| .cons 5 rfl <| .cons 6 rfl <| .cons 7 rfl <| .cons 8 rfl <| .nil), ?_⟩)
    refine JN_then ?_
    refine J_cond (cond_of (Lk.t rfl)) (fun h2 => ?_) (fun h2 => ?_)
    · have h2' := h2
      try simp only [cmpB, Bool.and_eq_true, Bool.or_eq_true, Bool.and_eq_false_iff, Bool.or_eq_false_iff, Bool.not_eq_true', Bool.not_eq_false', Bool.not_eq_true, Bool.not_eq_false, decide_eq_true_eq, decide_eq_false_iff_not, Int.not_lt, Int.not_le, beq_iff_eq, bne_iff_ne, beq_eq_false_iff_ne, bne_eq_false_iff_eq, ne_eq, Decidable.not_not] at h2
      refine J_skip ?_
      refine JN_then ?_
      refine J_seq ?_
      refine J_block ?_
      refine (J_reg [] (
          .cons (.no) _ _ (op_field_own fd30_0 (Lk.t rfl) rfl) <|
          .cons (.rd 3) _ _ (op_get_sc 3 sc28 (Lk.t rfl) rfl mem_blk rfl) <|
          .cons (.no) _ _ (op_move (Lk.t rfl)) <|
          .cons (.no) _ _ (op_build zr51 rfl pl51 (.cons rfl (Lk.k rfl) co_isv rfl (puts_l rfl (Nat.le_of_ble_eq_true rfl)) .nil)) <|
          .cons (.rd 0) _ _ (op_index_sm 0 sl28 (Lk.t rfl) (Lk.t rfl) rfl (by omega) (by omega)) <|
          .cons (.wr 0) _ _ (op_store_somk (v := p77) (j := k) 0 prtC_len (Lk.t rfl) rfl (Lk.sub (sb_agg (.cons sb_refl <| .cons sb_refl <| .cons sb_fz <| .cons sb_fz <| .nil)) (Lk.t rfl)) sz51 rfl (by omega)) <|
          .nil) ff rfl fun g8 => ⟨_, _, [0, 1, 2, 3, 4, 5, 6, 7, 8], rfl, (.cons 0 rfl <| .cons 1 rfl <| .cons 3 rfl <| .cons 4 rfl <| .cons 7 rfl <| .cons 11 rfl <| .cons 12 rfl <| .cons 13 rfl <| .cons 14 rfl <| .cons 15 rfl <| .cons 16 rfl <| .cons 18 rfl <| .nil), (.cons 0 rfl <| .cons 1 rfl <| .cons 2 rfl <| .cons 3 rfl <| .cons 4 rfl <| .cons 5 rfl <| .cons 6 rfl <| .cons 7 rfl <| .cons 8 rfl <| .nil), ?_⟩)
      refine JN_block ?_
      refine JN_then ?_
      refine (J_reg [] (
          .cons (.no) _ _ (op_move (Lk.t rfl)) <|
          .cons (.no) _ _ (op_add (Lk.t rfl) (Lk.k rfl) (wrap_id (by omega) (by omega))) <|
          .cons (.no) _ _ (op_assign (Lk.t rfl)) <|
          .nil) ff rfl fun g9 => ⟨_, _, [0, 1, 2, 3, 4, 5, 6, 7, 8], rfl, (.cons 0 rfl <| .cons 1 rfl <| .cons 3 rfl <| .cons 4 rfl <| .cons 7 rfl <| .cons 11 rfl <| .cons 12 rfl <| .cons 13 rfl <| .cons 14 rfl <| .cons 15 rfl <| .cons 16 rfl <| .cons 18 rfl <| .nil), (.cons 0 rfl <| .cons 1 rfl <| .cons 2 rfl <| .cons 3 rfl <| .cons 4 rfl <| .cons 5 rfl <| .cons 6 rfl <| .cons 7 rfl <| .cons 8 rfl <| .nil), ?_⟩)
      exact JN_again (k + 1) (by omega) (by omega) (To.pick (fun _ => .sub (t := 18) rfl (sp_eq (by rfl)) <| .cons 0 rfl <| .cons 1 rfl <| .cons 3 rfl <| .cons 4 rfl <| .cons 7 rfl <| .cons 11 rfl <| .cons 12 rfl <| .cons 13 rfl <| .cons 14 rfl <| .cons 15 rfl <| .cons 16 rfl <| .nil) (fun _ => .sub 0 rfl ((res_eq (by rw [← putV_set (by omega)]; rfl))) <| .cons 1 rfl <| .cons 2 rfl <| .cons 3 rfl <| .cons 4 rfl <| .cons 5 rfl <| .cons 6 rfl <| .cons 7 rfl <| .cons 8 rfl <| .nil) (ks := [0, 1, 2, 3, 4, 5, 6, 7, 8]) rfl)
    · have h2' := h2
      try simp only [cmpB, Bool.and_eq_true, Bool.or_eq_true, Bool.and_eq_false_iff, Bool.or_eq_false_iff, Bool.not_eq_true', Bool.not_eq_false', Bool.not_eq_true, Bool.not_eq_false, decide_eq_true_eq, decide_eq_false_iff_not, Int.not_lt, Int.not_le, beq_iff_eq, bne_iff_ne, beq_eq_false_iff_ne, bne_eq_false_iff_eq, ne_eq, Decidable.not_not] at h2
      refine J_exit ?_
      refine JN_then_exit ?_
      refine JN_then_exit ?_
      refine JN_exit_here ?_
      refine JN_then ?_
      refine J_seq ?_
      refine J_seq (J_reg [] (
          .cons (.no) _ _ (op_field_own fd39_1 (Lk.t rfl) rfl) <|
          .cons (.no) _ _ (op_field_own fd34_2 (Lk.t rfl) rfl) <|
          .cons (.rd 4) _ _ (op_get_sc 4 sc32 (Lk.t rfl) rfl mem_blk rfl) <|
          .cons (.no) _ _ (op_field_own fd39_2 (Lk.t rfl) rfl) <|
          .cons (.rd 4) _ _ (op_get_sc 4 sc32 (Lk.t rfl) rfl mem_blk rfl) <|
          .cons (.no) _ _ (op_move (Lk.t rfl)) <|
          .cons (.no) _ _ (op_buildSlice sl52 zr32 rfl rfl rfl rfl (.cons rfl (Lk.t rfl) co_isv rfl (puts_l rfl (Nat.le_of_ble_eq_true rfl)) (.cons rfl (Lk.t rfl) co_isv rfl (puts_l rfl (Nat.le_of_ble_eq_true rfl)) (.cons rfl (Lk.t rfl) co_isv rfl (puts_l rfl (Nat.le_of_ble_eq_true rfl)) .nil)))) <|
          .cons (.no) _ _ (op_len sl52 (Lk.t rfl)) <|
          .cons (.no) _ _ (op_move (Lk.k rfl)) <|
          .nil) ff rfl fun g10 => ⟨_, _, [0, 1, 2, 5, 6, 7, 8], rfl, (.cons 0 rfl <| .cons 1 rfl <| .cons 3 rfl <| .cons 4 rfl <| .cons 7 rfl <| .cons 14 rfl <| .cons 15 rfl <| .cons 16 rfl <| .cons 99 rfl <| .cons 100 rfl <| .cons 101 rfl <| .nil), (.cons 0 rfl <| .cons 1 rfl <| .cons 2 rfl <| .cons 5 rfl <| .cons 6 rfl <| .cons 7 rfl <| .cons 8 rfl <| .nil), ?_⟩)
      refine JN_then ?_
      refine J_block ?_
      refine J_to (To.slot 99 rfl (q := slm isv [(t0S <| prS (g2 36)), (t1S <| prS (g2 36)), (g2 38)]) sb_3) ?_
      refine J_to (To.emps 1) ?_
      refine J_to (To.res 7 (r' := pool 0 (fun _ => Go.Bn.emp)) rfl pool_nil rfl) ?_
      refine J_to (To.push 7 2 rfl rfl rfl rfl) ?_
      refine J_to (To.push 7 6 rfl rfl rfl rfl) ?_
      refine J_to (To.push 7 5 rfl rfl rfl rfl) ?_
      refine J_to (To.res 7 (r' := pool 3 (plW [(t0S <| prS (g2 36)), (t1S <| prS (g2 36)), (g2 38)] (wrL 4635118810238550016 (frX3 (hs.map cn) (rs.map cn) (xs.map cn)) 0) 37)) rfl pl_3 rfl) ?_
      refine J_loopc (α := Nat) (fun w => w ≤ 3) (fun w => 3 - w) (fun w restR => (101, isv (.int .i64 (w : Int))) :: restR) (fun w restS => pool 3 (plW [(t0S <| prS (g2 36)), (t1S <| prS (g2 36)), (g2 38)] (wrL 4635118810238550016 (frX3 (hs.map cn) (rs.map cn) (xs.map cn)) w) 37) :: restS) (ρc := [(0, _), (1, _), (3, _), (4, _), (7, _), (14, _), (15, _), (16, _), (99, _), (100, _)]) (σc := [_, _, _, _]) 0 (by omega) (To.pick (fun _ => .sub (t := 101) rfl (sp_eq (by rfl)) <| .cons 0 rfl <| .cons 1 rfl <| .cons 3 rfl <| .cons 4 rfl <| .cons 7 rfl <| .cons 14 rfl <| .cons 15 rfl <| .cons 16 rfl <| .cons 99 rfl <| .cons 100 rfl <| .nil) (fun _ => .sub 7 rfl ((fun _ _ h => h)) <| .cons 0 rfl <| .cons 1 rfl <| .cons 3 rfl <| .cons 4 rfl <| .nil) (ks := [7, 0, 1, 3, 4]) rfl) (fun w hI => ?_)
      refine J_seq (J_reg [] (
          .cons (.no) _ _ (op_cmp (by simp) (Lk.t rfl) (Lk.t rfl) rfl) <|
          .nil) ff rfl fun g11 => ⟨_, _, [0, 1, 2, 3, 4], rfl, (.cons 0 rfl <| .cons 1 rfl <| .cons 3 rfl <| .cons 4 rfl <| .cons 7 rfl <| .cons 14 rfl <| .cons 15 rfl <| .cons 16 rfl <| .cons 99 rfl <| .cons 100 rfl <| .cons 101 rfl <| .cons 102 rfl <| .nil), (.cons 0 rfl <| .cons 1 rfl <| .cons 2 rfl <| .cons 3 rfl <| .cons 4 rfl <| .nil), ?_⟩)
      refine JN_then ?_
      refine J_seq ?_
      refine J_cond (cond_of (Lk.t rfl)) (fun h3 => ?_) (fun h3 => ?_)
      · have h3' := h3
        try simp only [cmpB, Bool.and_eq_true, Bool.or_eq_true, Bool.and_eq_false_iff, Bool.or_eq_false_iff, Bool.not_eq_true', Bool.not_eq_false', Bool.not_eq_true, Bool.not_eq_false, decide_eq_true_eq, decide_eq_false_iff_not, Int.not_lt, Int.not_le, beq_iff_eq, bne_iff_ne, beq_eq_false_iff_ne, bne_eq_false_iff_eq, ne_eq, Decidable.not_not] at h3
        refine J_skip ?_
        refine JN_then ?_
        refine J_seq ?_
        refine J_block ?_
        refine J_seq (J_reg [] (
            .cons (.no) _ _ (op_index_m NILW sl52 (Lk.t rfl) (Lk.t rfl) (by omega) (by show _ < ((3 : Nat) : Int); omega)) <|
            .cons (.no) _ _ ((op_load_sc sc32 (Lk.t rfl) rfl)) <|
            .cons (.no) _ _ (op_assign (Lk.t rfl)) <|
            .nil) ff rfl fun g12 => ⟨_, _, [0, 1, 2, 3, 4], rfl, (.cons 0 rfl <| .cons 1 rfl <| .cons 3 rfl <| .cons 4 rfl <| .cons 7 rfl <| .cons 14 rfl <| .cons 15 rfl <| .cons 16 rfl <| .cons 20 rfl <| .cons 99 rfl <| .cons 100 rfl <| .cons 101 rfl <| .nil), (.cons 0 rfl <| .cons 1 rfl <| .cons 2 rfl <| .cons 3 rfl <| .cons 4 rfl <| .nil), ?_⟩)
        refine JN_then ?_
        refine J_to (To.emps 1) ?_
        refine J_to (To.focus 0 5 w (by omega) rfl rfl rfl rfl) ?_
        refine J_to (To.res 5 (r' := som ([(t0S <| prS (g2 36)), (t1S <| prS (g2 36)), (g2 38)].getD w NILW) flp ((frX3 (hs.map cn) (rs.map cn) (xs.map cn)) w) 37) rfl (res_eq plW_at) rfl) ?_
        refine J_seq (J_reg [] (
            .cons (.no) _ _ (op_assign (Lk.k rfl)) <|
            .nil) ff rfl fun g13 => ⟨_, _, [0, 1, 2, 3, 4, 5], rfl, (.cons 0 rfl <| .cons 1 rfl <| .cons 3 rfl <| .cons 4 rfl <| .cons 7 rfl <| .cons 14 rfl <| .cons 15 rfl <| .cons 16 rfl <| .cons 20 rfl <| .cons 21 rfl <| .cons 99 rfl <| .cons 100 rfl <| .cons 101 rfl <| .nil), (.cons 0 rfl <| .cons 1 rfl <| .cons 2 rfl <| .cons 3 rfl <| .cons 4 rfl <| .cons 5 rfl <| .nil), ?_⟩)
        refine JN_then ?_
        refine J_block ?_
        refine J_loopc (α := Nat) (fun k => k ≤ ((frX3 (hs.map cn) (rs.map cn) (xs.map cn)) w).length) (fun k => ((frX3 (hs.map cn) (rs.map cn) (xs.map cn)) w).length - k) (fun k restR => (21, isv (.int .i64 (k : Int))) :: restR) (fun k restS => som ([(t0S <| prS (g2 36)), (t1S <| prS (g2 36)), (g2 38)].getD w NILW) flp (putV 4635118810238550016 ((frX3 (hs.map cn) (rs.map cn) (xs.map cn)) w) k) 37 :: restS) (ρc := [(0, _), (1, _), (3, _), (4, _), (7, _), (14, _), (15, _), (16, _), (20, _), (99, _), (100, _), (101, _)]) (σc := [_, _, _, _, _]) 0 (by exact Nat.zero_le _) (To.pick (fun _ => .sub (t := 21) rfl (sp_eq (by rfl)) <| .cons 0 rfl <| .cons 1 rfl <| .cons 3 rfl <| .cons 4 rfl <| .cons 7 rfl <| .cons 14 rfl <| .cons 15 rfl <| .cons 16 rfl <| .cons 20 rfl <| .cons 99 rfl <| .cons 100 rfl <| .cons 101 rfl <| .nil) (fun _ => .sub 5 rfl ((res_eq rfl)) <| .cons 0 rfl <| .cons 1 rfl <| .cons 2 rfl <| .cons 3 rfl <| .cons 4 rfl <| .nil) (ks := [5, 0, 1, 2, 3, 4]) rfl) (fun k hJ => ?_)
        have hpl := length_putV (v := 4635118810238550016) (xs := ((frX3 (hs.map cn) (rs.map cn) (xs.map cn)) w)) hJ
        have hfl := frX3_le (a := (hs.map cn)) (b := (rs.map cn)) (c := (xs.map cn)) (n := 17592186044416) (i := w) (by have := hh.2; simp; omega) (by have := hr.2; simp; omega) (by have := hx.2; simp; omega)
        refine J_seq ?_
        refine J_seq (J_reg [] (
            .cons (.no) _ _ (op_move (Lk.t rfl)) <|
            .cons (.no) _ _ (op_move (Lk.t rfl)) <|
            .cons (.rd 0) _ _ (op_len_som 0 sl32 (Lk.t rfl) rfl) <|
            .cons (.no) _ _ (op_cmp (by simp) (Lk.t rfl) (Lk.t rfl) rfl) <|
            .nil) ff rfl fun g14 => ⟨_, _, [0, 1, 2, 3, 4, 5], rfl, (.cons 0 rfl <| .cons 1 rfl <| .cons 3 rfl <| .cons 4 rfl <| .cons 7 rfl <| .cons 14 rfl <| .cons 15 rfl <| .cons 16 rfl <| .cons 20 rfl <| .cons 21 rfl <| .cons 99 rfl <| .cons 100 rfl <| .cons 101 rfl <| .cons 108 rfl <| .nil), (.cons 0 rfl <| .cons 1 rfl <| .cons 2 rfl <| .cons 3 rfl <| .cons 4 rfl <| .cons 5 rfl <| .nil), ?_⟩)
        refine JN_then ?_
        refine J_cond (cond_of (Lk.t rfl)) (fun h4 => ?_) (fun h4 => ?_)
        · have h4' := h4
          try simp only [cmpB, Bool.and_eq_true, Bool.or_eq_true, Bool.and_eq_false_iff, Bool.or_eq_false_iff, Bool.not_eq_true', Bool.not_eq_false', Bool.not_eq_true, Bool.not_eq_false, decide_eq_true_eq, decide_eq_false_iff_not, Int.not_lt, Int.not_le, beq_iff_eq, bne_iff_ne, beq_eq_false_iff_ne, bne_eq_false_iff_eq, ne_eq, Decidable.not_not] at h4
          refine J_skip ?_
          refine JN_then ?_
          refine J_seq ?_
          refine J_block ?_
          refine (J_reg [] (
              .cons (.no) _ _ (op_move (Lk.t rfl)) <|
              .cons (.no) _ _ (op_move (Lk.t rfl)) <|
              .cons (.rd 0) _ _ (op_index_som 0 sl32 (Lk.t rfl) (Lk.t rfl) rfl (by omega) (by omega)) <|
              .cons (.wr 0) _ _ (op_store_som 0 (Lk.t rfl) (Lk.fk rfl (by decide +kernel)) co_flp sz37 rfl (by omega)) <|
              .nil) ff rfl fun g15 => ⟨_, _, [0, 1, 2, 3, 4, 5], rfl, (.cons 0 rfl <| .cons 1 rfl <| .cons 3 rfl <| .cons 4 rfl <| .cons 7 rfl <| .cons 14 rfl <| .cons 15 rfl <| .cons 16 rfl <| .cons 20 rfl <| .cons 21 rfl <| .cons 99 rfl <| .cons 100 rfl <| .cons 101 rfl <| .nil), (.cons 0 rfl <| .cons 1 rfl <| .cons 2 rfl <| .cons 3 rfl <| .cons 4 rfl <| .cons 5 rfl <| .nil), ?_⟩)
          refine JN_block ?_
          refine JN_then ?_
          refine (J_reg [] (
              .cons (.no) _ _ (op_move (Lk.t rfl)) <|
              .cons (.no) _ _ (op_add (Lk.t rfl) (Lk.k rfl) (wrap_id (by omega) (by omega))) <|
              .cons (.no) _ _ (op_assign (Lk.t rfl)) <|
              .nil) ff rfl fun g16 => ⟨_, _, [0, 1, 2, 3, 4, 5], rfl, (.cons 0 rfl <| .cons 1 rfl <| .cons 3 rfl <| .cons 4 rfl <| .cons 7 rfl <| .cons 14 rfl <| .cons 15 rfl <| .cons 16 rfl <| .cons 20 rfl <| .cons 21 rfl <| .cons 99 rfl <| .cons 100 rfl <| .cons 101 rfl <| .nil), (.cons 0 rfl <| .cons 1 rfl <| .cons 2 rfl <| .cons 3 rfl <| .cons 4 rfl <| .cons 5 rfl <| .nil), ?_⟩)
          exact JN_again (k + 1) (by omega) (by omega) (To.pick (fun _ => .sub (t := 21) rfl (sp_eq (by rfl)) <| .cons 0 rfl <| .cons 1 rfl <| .cons 3 rfl <| .cons 4 rfl <| .cons 7 rfl <| .cons 14 rfl <| .cons 15 rfl <| .cons 16 rfl <| .cons 20 rfl <| .cons 99 rfl <| .cons 100 rfl <| .cons 101 rfl <| .nil) (fun _ => .sub 0 rfl ((res_eq (by rw [← putV_set (by omega)]; rfl))) <| .cons 1 rfl <| .cons 2 rfl <| .cons 3 rfl <| .cons 4 rfl <| .cons 5 rfl <| .nil) (ks := [0, 1, 2, 3, 4, 5]) rfl)
        · have h4' := h4
          try simp only [cmpB, Bool.and_eq_true, Bool.or_eq_true, Bool.and_eq_false_iff, Bool.or_eq_false_iff, Bool.not_eq_true', Bool.not_eq_false', Bool.not_eq_true, Bool.not_eq_false, decide_eq_true_eq, decide_eq_false_iff_not, Int.not_lt, Int.not_le, beq_iff_eq, bne_iff_ne, beq_eq_false_iff_ne, bne_eq_false_iff_eq, ne_eq, Decidable.not_not] at h4
          refine J_exit ?_
          refine JN_then_exit ?_
          refine JN_then_exit ?_
          refine JN_exit_here ?_
          refine JN_block ?_
          refine JN_then ?_
          refine J_to (To.res 0 (r' := som ([(t0S <| prS (g2 36)), (t1S <| prS (g2 36)), (g2 38)].getD w NILW) flp (List.replicate ((frX3 (hs.map cn) (rs.map cn) (xs.map cn)) w).length 4635118810238550016) 37) rfl (res_eq (by rw [putV_all (by omega)])) rfl) ?_
          refine J_to (To.unfocus 1 0 w (by omega) rfl rfl rfl rfl) ?_
          refine J_to (To.res 1 (r' := pool 3 (plW [(t0S <| prS (g2 36)), (t1S <| prS (g2 36)), (g2 38)] (wrL 4635118810238550016 (frX3 (hs.map cn) (rs.map cn) (xs.map cn)) (w + 1)) 37)) rfl plW_fill rfl) ?_
          refine (J_reg [] (
              .cons (.no) _ _ (op_add (Lk.t rfl) (Lk.k rfl) (wrap_id (by omega) (by omega))) <|
              .cons (.no) _ _ (op_move (Lk.t rfl)) <|
              .nil) ff rfl fun g17 => ⟨_, _, [1, 2, 3, 4, 5], rfl, (.cons 0 rfl <| .cons 1 rfl <| .cons 3 rfl <| .cons 4 rfl <| .cons 7 rfl <| .cons 14 rfl <| .cons 15 rfl <| .cons 16 rfl <| .cons 99 rfl <| .cons 100 rfl <| .cons 101 rfl <| .nil), (.cons 1 rfl <| .cons 2 rfl <| .cons 3 rfl <| .cons 4 rfl <| .cons 5 rfl <| .nil), ?_⟩)
          exact JN_again (w + 1) (by omega) (by omega) (To.pick (fun _ => .sub (t := 101) rfl (sp_eq (by rfl)) <| .cons 0 rfl <| .cons 1 rfl <| .cons 3 rfl <| .cons 4 rfl <| .cons 7 rfl <| .cons 14 rfl <| .cons 15 rfl <| .cons 16 rfl <| .cons 99 rfl <| .cons 100 rfl <| .nil) (fun _ => .sub 0 rfl ((fun _ _ h => h)) <| .cons 1 rfl <| .cons 2 rfl <| .cons 3 rfl <| .cons 4 rfl <| .nil) (ks := [0, 1, 2, 3, 4]) rfl)
      · have h3' := h3
        try simp only [cmpB, Bool.and_eq_true, Bool.or_eq_true, Bool.and_eq_false_iff, Bool.or_eq_false_iff, Bool.not_eq_true', Bool.not_eq_false', Bool.not_eq_true, Bool.not_eq_false, decide_eq_true_eq, decide_eq_false_iff_not, Int.not_lt, Int.not_le, beq_iff_eq, bne_iff_ne, beq_eq_false_iff_ne, bne_eq_false_iff_eq, ne_eq, Decidable.not_not] at h3
        refine J_exit ?_
        refine JN_then_exit ?_
        refine JN_then_exit ?_
        refine JN_exit_here ?_
        refine JN_then ?_
        refine J_seq ?_
        refine J_seq (J_reg [] (
            .cons (.no) _ _ (op_assign (Lk.k rfl)) <|
            .nil) ff rfl fun g18 => ⟨_, _, [0, 1, 2, 3, 4], rfl, (.cons 0 rfl <| .cons 1 rfl <| .cons 3 rfl <| .cons 4 rfl <| .cons 7 rfl <| .cons 14 rfl <| .cons 15 rfl <| .cons 16 rfl <| .cons 22 rfl <| .nil), (.cons 0 rfl <| .cons 1 rfl <| .cons 2 rfl <| .cons 3 rfl <| .cons 4 rfl <| .nil), ?_⟩)
        refine JN_then ?_
        refine J_block ?_
        refine J_loopc (α := Nat) (fun k => k ≤ es.length) (fun k => es.length - k) (fun k restR => (22, isv (.int .i64 (k : Int))) :: restR) (fun k restS => som (g2 41) (inp .i64) (putV 77 es k) 3 :: restS) (ρc := [(0, _), (1, _), (3, _), (4, _), (7, _), (14, _), (15, _), (16, _)]) (σc := [_, _, _, _]) 0 (by exact Nat.zero_le _) (To.pick (fun _ => .sub (t := 22) rfl (sp_eq (by rfl)) <| .cons 0 rfl <| .cons 1 rfl <| .cons 3 rfl <| .cons 4 rfl <| .cons 7 rfl <| .cons 14 rfl <| .cons 15 rfl <| .cons 16 rfl <| .nil) (fun _ => .sub 4 rfl ((res_eq rfl)) <| .cons 0 rfl <| .cons 1 rfl <| .cons 2 rfl <| .cons 3 rfl <| .nil) (ks := [4, 0, 1, 2, 3]) rfl) (fun k hI => ?_)
        have hpl := length_putV (v := (77 : Int)) (xs := es) hI
        refine J_seq ?_
        refine J_seq (J_reg [] (
            .cons (.no) _ _ (op_move (Lk.t rfl)) <|
            .cons (.no) _ _ (op_move (Lk.t rfl)) <|
            .cons (.rd 0) _ _ (op_len_som 0 sl27 (Lk.t rfl) rfl) <|
            .cons (.no) _ _ (op_cmp (by simp) (Lk.t rfl) (Lk.t rfl) rfl) <|
            .nil) ff rfl fun g19 => ⟨_, _, [0, 1, 2, 3, 4], rfl, (.cons 0 rfl <| .cons 1 rfl <| .cons 3 rfl <| .cons 4 rfl <| .cons 7 rfl <| .cons 14 rfl <| .cons 15 rfl <| .cons 16 rfl <| .cons 22 rfl <| .cons 118 rfl <| .nil), (.cons 0 rfl <| .cons 1 rfl <| .cons 2 rfl <| .cons 3 rfl <| .cons 4 rfl <| .nil), ?_⟩)
        refine JN_then ?_
        refine J_cond (cond_of (Lk.t rfl)) (fun h5 => ?_) (fun h5 => ?_)
        · have h5' := h5
          try simp only [cmpB, Bool.and_eq_true, Bool.or_eq_true, Bool.and_eq_false_iff, Bool.or_eq_false_iff, Bool.not_eq_true', Bool.not_eq_false', Bool.not_eq_true, Bool.not_eq_false, decide_eq_true_eq, decide_eq_false_iff_not, Int.not_lt, Int.not_le, beq_iff_eq, bne_iff_ne, beq_eq_false_iff_ne, bne_eq_false_iff_eq, ne_eq, Decidable.not_not] at h5
          refine J_skip ?_
          refine JN_then ?_
          refine J_seq ?_
          refine J_block ?_
          refine J_seq ?_
          refine J_seq (J_reg [[], [], [0, 1], [0, 1, 2], [], [], [4, 5], [4, 5, 6], [0, 1, 2, 3, 4, 5, 6, 7]] (
              .cons (.no) _ _ (op_move (Lk.t rfl)) <|
              .cons (.no) _ _ (op_move (Lk.t rfl)) <|
              .cons (.rd 0) _ _ (op_index_som 0 sl27 (Lk.t rfl) (Lk.t rfl) rfl (by omega) (by omega)) <|
              .cons (.rd 0) _ _ (op_get_som 0 0 sc3 (Lk.t rfl) rfl (by omega)) <|
              .cons (.no) _ _ (op_move (Lk.t rfl)) <|
              .cons (.no) _ _ (op_move (Lk.t rfl)) <|
              .cons (.no) _ _ (op_index_m 0 sl27 (Lk.t rfl) (Lk.t rfl) (by omega) (by omega)) <|
              .cons (.no) _ _ (op_load_sc sc3 (Lk.t rfl) rfl) <|
              .cons (.no) _ _ (op_cmp (by simp) (Lk.t rfl) (Lk.t rfl) rfl) <|
              .nil) (fun _ => mixed) rfl fun g20 => ⟨_, _, [0, 1, 2, 3, 4], rfl, (.cons 0 rfl <| .cons 1 rfl <| .cons 3 rfl <| .cons 4 rfl <| .cons 7 rfl <| .cons 14 rfl <| .cons 15 rfl <| .cons 16 rfl <| .cons 22 rfl <| .cons 129 rfl <| .nil), (.cons 0 rfl <| .cons 1 rfl <| .cons 2 rfl <| .cons 3 rfl <| .cons 4 rfl <| .nil), ?_⟩)
          refine JN_then ?_
          refine J_cond (cond_of (Lk.t rfl)) (fun h6 => ?_) (fun h6 => ?_)
          · have h6' := h6
            try simp only [cmpB, Bool.and_eq_true, Bool.or_eq_true, Bool.and_eq_false_iff, Bool.or_eq_false_iff, Bool.not_eq_true', Bool.not_eq_false', Bool.not_eq_true, Bool.not_eq_false, decide_eq_true_eq, decide_eq_false_iff_not, Int.not_lt, Int.not_le, beq_iff_eq, bne_iff_ne, beq_eq_false_iff_ne, bne_eq_false_iff_eq, ne_eq, Decidable.not_not] at h6
            exact absurd h6' (by rw [putV_at (by omega)]; simp [cmpB])
          · have h6' := h6
            try simp only [cmpB, Bool.and_eq_true, Bool.or_eq_true, Bool.and_eq_false_iff, Bool.or_eq_false_iff, Bool.not_eq_true', Bool.not_eq_false', Bool.not_eq_true, Bool.not_eq_false, decide_eq_true_eq, decide_eq_false_iff_not, Int.not_lt, Int.not_le, beq_iff_eq, bne_iff_ne, beq_eq_false_iff_ne, bne_eq_false_iff_eq, ne_eq, Decidable.not_not] at h6
            refine J_skip ?_
            refine JN_then ?_
            refine (J_reg [] (
                .cons (.no) _ _ (op_move (Lk.t rfl)) <|
                .cons (.no) _ _ (op_move (Lk.t rfl)) <|
                .cons (.rd 0) _ _ (op_index_som 0 sl27 (Lk.t rfl) (Lk.t rfl) rfl (by omega) (by omega)) <|
                .cons (.wr 0) _ _ (op_store_som (mk := inp .i64) 0 (Lk.t rfl) (Lk.k rfl) co_isv sz3 rfl (by omega)) <|
                .nil) ff rfl fun g21 => ⟨_, _, [0, 1, 2, 3, 4], rfl, (.cons 0 rfl <| .cons 1 rfl <| .cons 3 rfl <| .cons 4 rfl <| .cons 7 rfl <| .cons 14 rfl <| .cons 15 rfl <| .cons 16 rfl <| .cons 22 rfl <| .nil), (.cons 0 rfl <| .cons 1 rfl <| .cons 2 rfl <| .cons 3 rfl <| .cons 4 rfl <| .nil), ?_⟩)
            refine JN_block ?_
            refine JN_then ?_
            refine (J_reg [] (
                .cons (.no) _ _ (op_move (Lk.t rfl)) <|
                .cons (.no) _ _ (op_add (Lk.t rfl) (Lk.k rfl) (wrap_id (by omega) (by omega))) <|
                .cons (.no) _ _ (op_assign (Lk.t rfl)) <|
                .nil) ff rfl fun g22 => ⟨_, _, [0, 1, 2, 3, 4], rfl, (.cons 0 rfl <| .cons 1 rfl <| .cons 3 rfl <| .cons 4 rfl <| .cons 7 rfl <| .cons 14 rfl <| .cons 15 rfl <| .cons 16 rfl <| .cons 22 rfl <| .nil), (.cons 0 rfl <| .cons 1 rfl <| .cons 2 rfl <| .cons 3 rfl <| .cons 4 rfl <| .nil), ?_⟩)
            exact JN_again (k + 1) (by omega) (by omega) (To.pick (fun _ => .sub (t := 22) rfl (sp_eq (by rfl)) <| .cons 0 rfl <| .cons 1 rfl <| .cons 3 rfl <| .cons 4 rfl <| .cons 7 rfl <| .cons 14 rfl <| .cons 15 rfl <| .cons 16 rfl <| .nil) (fun _ => .sub 0 rfl ((res_eq (by rw [← putV_set (by omega)]))) <| .cons 1 rfl <| .cons 2 rfl <| .cons 3 rfl <| .cons 4 rfl <| .nil) (ks := [0, 1, 2, 3, 4]) rfl)
        · have h5' := h5
          try simp only [cmpB, Bool.and_eq_true, Bool.or_eq_true, Bool.and_eq_false_iff, Bool.or_eq_false_iff, Bool.not_eq_true', Bool.not_eq_false', Bool.not_eq_true, Bool.not_eq_false, decide_eq_true_eq, decide_eq_false_iff_not, Int.not_lt, Int.not_le, beq_iff_eq, bne_iff_ne, beq_eq_false_iff_ne, bne_eq_false_iff_eq, ne_eq, Decidable.not_not] at h5
          refine J_exit ?_
          refine JN_then_exit ?_
          refine JN_then_exit ?_
          refine JN_exit_here ?_
          refine JN_then ?_
          refine J_to (To.emps 2) ?_
          refine J_seq (J_reg [[], [0], [], [], [0, 1, 3], [], [0, 1, 3, 4, 5], [], [], [0, 1, 3, 4, 5, 6, 7, 8], [0, 1, 2, 3, 4, 5, 6, 7, 8, 9], [0, 1, 2, 3, 4, 5, 6, 7, 8, 9, 10]] (
              .cons (.no) _ _ (op_move (Lk.t rfl)) <|
              .cons (.no) _ _ (op_call (motion_ok hl) ⟨(Lk.t rfl),  trivial⟩) <|
              .cons (.no) _ _ (op_move (Lk.t rfl)) <|
              .cons (.rd 3) _ _ (op_get_ag 3 ag26 (Lk.t rfl) rfl mem_blk rfl rfl) <|
              .cons (.no) _ _ (op_call (sensor_ok hh hr hq) ⟨(Lk.t rfl),  trivial⟩) <|
              .cons (.no) _ _ (op_move (Lk.t rfl)) <|
              .cons (.no) _ _ (op_call (of64_ok hx.1 hx.2) ⟨(Lk.t rfl),  trivial⟩) <|
              .cons (.no) _ _ (op_build0L sl27) <|
              .cons (.no) _ _ (op_move (Lk.t rfl)) <|
              .cons (.no) _ _ (op_append_e0 sl27 zr3 rfl (Lk.t rfl) (Lk.t rfl) (by omega) (by omega)) <|
              .cons (.wr 5) _ _ (op_callF 5 (ansF_ok) ⟨(Lk.t rfl), (Lk.t rfl), (Lk.t rfl), (Lk.t rfl), (Lk.t rfl),  trivial⟩ rfl) <|
              .cons (.no) _ _ (op_assign_ve rfl rfl) <|
              .nil) (fun _ => mixed) rfl fun g23 => ⟨_, _, [0, 1, 2, 3, 4, 5], rfl, (.cons 0 rfl <| .cons 1 rfl <| .cons 3 rfl <| .cons 4 rfl <| .cons 7 rfl <| .cons 15 rfl <| .cons 16 rfl <| .cons 23 rfl <| .nil), (.cons 0 rfl <| .cons 1 rfl <| .cons 2 rfl <| .cons 3 rfl <| .cons 4 rfl <| .cons 5 rfl <| .nil), ?_⟩)
          refine JN_then ?_
          refine J_seq ?_
          refine J_ex 5 rfl fun e2p => ?_
          obtain ⟨e2, hre⟩ := e2p
          have hel : e2.length = 5 := hre.l
          refine J_to (To.emps 1) ?_
          refine J_to (To.split 5 6 rfl rfl rfl rfl) ?_
          refine J_to (To.res 5 (r' := somk (g23 143) 3 meU e2 34) rfl (res_eq rfl) rfl) ?_
          refine J_to (To.res 6 (r' := pool 5 (plE e2 (wrL 4635118810238550016 (eOf (ansE (ls.map pcn) t i r c (hs.map cn) (rs.map cn) (cn q) (xs.map cn) es)) 0) 37)) rfl (res_eq (by rw [plE_0]; rfl)) rfl) ?_
          refine J_to (To.freeze 5 (fun _ h => h) rfl frz_somk rfl) ?_
          refine J_to (To.slot 23 rfl (q := slk 3 meU e2) (sb_fk 0 rfl)) ?_
          refine J_seq (J_reg [] (
              .cons (.no) _ _ (op_assign (Lk.k rfl)) <|
              .nil) ff rfl fun g24 => ⟨_, _, [0, 1, 2, 3, 4, 6], rfl, (.cons 0 rfl <| .cons 1 rfl <| .cons 3 rfl <| .cons 4 rfl <| .cons 7 rfl <| .cons 15 rfl <| .cons 16 rfl <| .cons 23 rfl <| .cons 24 rfl <| .nil), (.cons 0 rfl <| .cons 1 rfl <| .cons 2 rfl <| .cons 3 rfl <| .cons 4 rfl <| .cons 6 rfl <| .nil), ?_⟩)
          refine JN_then ?_
          refine J_block ?_
          refine J_loopc (α := Nat) (fun w => w ≤ 5) (fun w => 5 - w) (fun w restR => (24, isv (.int .i64 (w : Int))) :: restR) (fun w restS => pool 5 (plE e2 (wrL 4635118810238550016 (eOf (ansE (ls.map pcn) t i r c (hs.map cn) (rs.map cn) (cn q) (xs.map cn) es)) w) 37) :: restS) (ρc := [(0, _), (1, _), (3, _), (4, _), (7, _), (15, _), (16, _), (23, _)]) (σc := [_, _, _, _, _]) 0 (by omega) (To.pick (fun _ => .sub (t := 24) rfl (sp_eq (by rfl)) <| .cons 0 rfl <| .cons 1 rfl <| .cons 3 rfl <| .cons 4 rfl <| .cons 7 rfl <| .cons 15 rfl <| .cons 16 rfl <| .cons 23 rfl <| .nil) (fun _ => .sub 5 rfl ((fun _ _ h => h)) <| .cons 0 rfl <| .cons 1 rfl <| .cons 2 rfl <| .cons 3 rfl <| .cons 4 rfl <| .nil) (ks := [5, 0, 1, 2, 3, 4]) rfl) (fun w hI => ?_)
          have hal : (ansE (ls.map pcn) t i r c (hs.map cn) (rs.map cn) (cn q) (xs.map cn) es).length = 5 := rfl
          refine J_seq ?_
          refine J_seq (J_reg [] (
              .cons (.no) _ _ (op_move (Lk.t rfl)) <|
              .cons (.no) _ _ (op_move (Lk.t rfl)) <|
              .cons (.no) _ _ (op_len_sk sl42 (Lk.t rfl)) <|
              .cons (.no) _ _ (op_cmp (by simp) (Lk.t rfl) (Lk.t rfl) rfl) <|
              .nil) ff rfl fun g25 => ⟨_, _, [0, 1, 2, 3, 4, 5], rfl, (.cons 0 rfl <| .cons 1 rfl <| .cons 3 rfl <| .cons 4 rfl <| .cons 7 rfl <| .cons 15 rfl <| .cons 16 rfl <| .cons 23 rfl <| .cons 24 rfl <| .cons 147 rfl <| .nil), (.cons 0 rfl <| .cons 1 rfl <| .cons 2 rfl <| .cons 3 rfl <| .cons 4 rfl <| .cons 5 rfl <| .nil), ?_⟩)
          refine JN_then ?_
          refine J_cond (cond_of (Lk.t rfl)) (fun h7 => ?_) (fun h7 => ?_)
          · have h7' := h7
            try simp only [cmpB, Bool.and_eq_true, Bool.or_eq_true, Bool.and_eq_false_iff, Bool.or_eq_false_iff, Bool.not_eq_true', Bool.not_eq_false', Bool.not_eq_true, Bool.not_eq_false, decide_eq_true_eq, decide_eq_false_iff_not, Int.not_lt, Int.not_le, beq_iff_eq, bne_iff_ne, beq_eq_false_iff_ne, bne_eq_false_iff_eq, ne_eq, Decidable.not_not] at h7
            refine J_skip ?_
            refine JN_then ?_
            refine J_seq ?_
            refine J_block ?_
            refine J_seq ?_
            refine J_to (To.emps 1) ?_
            refine J_to (To.focus 0 6 w (by omega) rfl rfl rfl rfl) ?_
            refine J_to (To.res 6 (r' := som (e2.getD w meD).u flp ((eOf (ansE (ls.map pcn) t i r c (hs.map cn) (rs.map cn) (cn q) (xs.map cn) es)) w) 37) rfl (res_eq plE_at) rfl) ?_
            refine J_som 6 rfl fun hfl => ?_
            refine J_seq (J_reg [[], [], [0, 1], [0, 1, 2], [], [], [4, 5], [4, 5, 6], [0, 1, 2, 3, 4, 5, 6, 7], [0, 1, 2, 3, 4, 5, 6, 7, 8]] (
                .cons (.no) _ _ (op_move (Lk.t rfl)) <|
                .cons (.no) _ _ (op_move (Lk.t rfl)) <|
                .cons (.no) _ _ (op_index_sk (mk := mtM) mxD sl42 mtM_len (Lk.t rfl) (Lk.t rfl) (by omega) (by omega)) <|
                .cons (.no) _ _ (op_load_ag ag34 (Lk.t rfl) rfl rfl) <|
                .cons (.no) _ _ (op_move (Lk.t rfl)) <|
                .cons (.no) _ _ (op_move (Lk.t rfl)) <|
                .cons (.no) _ _ (op_index_sk (mk := meU) meD sl42 meU_len (Lk.t rfl) (Lk.t rfl) (by omega) (by omega)) <|
                .cons (.no) _ _ (op_load_ag ag34 (Lk.t rfl) rfl rfl) <|
                .cons (.rd 6) _ _ (op_callL 6 (told14_ok) (pure_isv _) ⟨.inl (Lk.t rfl), .inl (Lk.k rfl), .inr ⟨_, Lk.t rfl, lent_matN⟩, .inl (Lk.k rfl),  trivial⟩ rfl) <|
                .cons (.no) _ _ (op_not (Lk.t rfl)) <|
                .nil) (fun _ => mixed) rfl fun g26 => ⟨_, _, [0, 1, 2, 3, 4, 5, 6], rfl, (.cons 0 rfl <| .cons 1 rfl <| .cons 3 rfl <| .cons 4 rfl <| .cons 7 rfl <| .cons 15 rfl <| .cons 16 rfl <| .cons 23 rfl <| .cons 24 rfl <| .cons 159 rfl <| .nil), (.cons 0 rfl <| .cons 1 rfl <| .cons 2 rfl <| .cons 3 rfl <| .cons 4 rfl <| .cons 5 rfl <| .cons 6 rfl <| .nil), ?_⟩)
            refine JN_then ?_
            refine J_cond (cond_of (Lk.t rfl)) (fun h8 => ?_) (fun h8 => ?_)
            · have h8' := h8
              try simp only [cmpB, Bool.and_eq_true, Bool.or_eq_true, Bool.and_eq_false_iff, Bool.or_eq_false_iff, Bool.not_eq_true', Bool.not_eq_false', Bool.not_eq_true, Bool.not_eq_false, decide_eq_true_eq, decide_eq_false_iff_not, Int.not_lt, Int.not_le, beq_iff_eq, bne_iff_ne, beq_eq_false_iff_ne, bne_eq_false_iff_eq, ne_eq, Decidable.not_not] at h8
              exact absurd h8' (by rw [show ((w : Int)).toNat = w by omega]; have := hre.h w (by omega); rw [this.1, this.2]; unfold eOf; rw [tolB_s]; simp)
            · have h8' := h8
              try simp only [cmpB, Bool.and_eq_true, Bool.or_eq_true, Bool.and_eq_false_iff, Bool.or_eq_false_iff, Bool.not_eq_true', Bool.not_eq_false', Bool.not_eq_true, Bool.not_eq_false, decide_eq_true_eq, decide_eq_false_iff_not, Int.not_lt, Int.not_le, beq_iff_eq, bne_iff_ne, beq_eq_false_iff_ne, bne_eq_false_iff_eq, ne_eq, Decidable.not_not] at h8
              refine J_skip ?_
              refine JN_then ?_
              refine J_seq (J_reg [] (
                  .cons (.no) _ _ (op_assign (Lk.k rfl)) <|
                  .nil) ff rfl fun g27 => ⟨_, _, [0, 1, 2, 3, 4, 5, 6], rfl, (.cons 0 rfl <| .cons 1 rfl <| .cons 3 rfl <| .cons 4 rfl <| .cons 7 rfl <| .cons 15 rfl <| .cons 16 rfl <| .cons 23 rfl <| .cons 24 rfl <| .cons 25 rfl <| .nil), (.cons 0 rfl <| .cons 1 rfl <| .cons 2 rfl <| .cons 3 rfl <| .cons 4 rfl <| .cons 5 rfl <| .cons 6 rfl <| .nil), ?_⟩)
              refine JN_then ?_
              refine J_block ?_
              refine J_loopc (α := Nat) (fun z => z ≤ ((eOf (ansE (ls.map pcn) t i r c (hs.map cn) (rs.map cn) (cn q) (xs.map cn) es)) w).length) (fun z => ((eOf (ansE (ls.map pcn) t i r c (hs.map cn) (rs.map cn) (cn q) (xs.map cn) es)) w).length - z) (fun z restR => (25, isv (.int .i64 (z : Int))) :: restR) (fun z restS => som (e2.getD w meD).u flp (putV 4635118810238550016 ((eOf (ansE (ls.map pcn) t i r c (hs.map cn) (rs.map cn) (cn q) (xs.map cn) es)) w) z) 37 :: restS) (ρc := [(0, _), (1, _), (3, _), (4, _), (7, _), (15, _), (16, _), (23, _), (24, _)]) (σc := [_, _, _, _, _, _]) 0 (by exact Nat.zero_le _) (To.pick (fun _ => .sub (t := 25) rfl (sp_eq (by rfl)) <| .cons 0 rfl <| .cons 1 rfl <| .cons 3 rfl <| .cons 4 rfl <| .cons 7 rfl <| .cons 15 rfl <| .cons 16 rfl <| .cons 23 rfl <| .cons 24 rfl <| .nil) (fun _ => .sub 6 rfl ((res_eq rfl)) <| .cons 0 rfl <| .cons 1 rfl <| .cons 2 rfl <| .cons 3 rfl <| .cons 4 rfl <| .cons 5 rfl <| .nil) (ks := [6, 0, 1, 2, 3, 4, 5]) rfl) (fun z hJ => ?_)
              have hpl := length_putV (v := 4635118810238550016) (xs := ((eOf (ansE (ls.map pcn) t i r c (hs.map cn) (rs.map cn) (cn q) (xs.map cn) es)) w)) hJ
              refine J_seq ?_
              refine J_seq (J_reg [] (
                  .cons (.no) _ _ (op_move (Lk.t rfl)) <|
                  .cons (.no) _ _ (op_move (Lk.t rfl)) <|
                  .cons (.no) _ _ (op_move (Lk.t rfl)) <|
                  .cons (.no) _ _ (op_index_sk (mk := meU) meD sl42 meU_len (Lk.t rfl) (Lk.t rfl) (by omega) (by omega)) <|
                  .cons (.no) _ _ (op_field_ptr fd34_2 (Lk.t rfl) rfl) <|
                  .cons (.no) _ _ (op_load_sc sc32 (Lk.t rfl) rfl) <|
                  .cons (.rd 0) _ _ (op_len_som 0 sl32 (Lk.t rfl) rfl) <|
                  .cons (.no) _ _ (op_cmp (by simp) (Lk.t rfl) (Lk.t rfl) rfl) <|
                  .nil) ff rfl fun g28 => ⟨_, _, [0, 1, 2, 3, 4, 5, 6], rfl, (.cons 0 rfl <| .cons 1 rfl <| .cons 3 rfl <| .cons 4 rfl <| .cons 7 rfl <| .cons 15 rfl <| .cons 16 rfl <| .cons 23 rfl <| .cons 24 rfl <| .cons 25 rfl <| .cons 167 rfl <| .nil), (.cons 0 rfl <| .cons 1 rfl <| .cons 2 rfl <| .cons 3 rfl <| .cons 4 rfl <| .cons 5 rfl <| .cons 6 rfl <| .nil), ?_⟩)
              refine JN_then ?_
              refine J_cond (cond_of (Lk.t rfl)) (fun h9 => ?_) (fun h9 => ?_)
              · have h9' := h9
                try simp only [cmpB, Bool.and_eq_true, Bool.or_eq_true, Bool.and_eq_false_iff, Bool.or_eq_false_iff, Bool.not_eq_true', Bool.not_eq_false', Bool.not_eq_true, Bool.not_eq_false, decide_eq_true_eq, decide_eq_false_iff_not, Int.not_lt, Int.not_le, beq_iff_eq, bne_iff_ne, beq_eq_false_iff_ne, bne_eq_false_iff_eq, ne_eq, Decidable.not_not] at h9
                refine J_skip ?_
                refine JN_then ?_
                refine J_seq ?_
                refine J_block ?_
                refine (J_reg [] (
                    .cons (.no) _ _ (op_move (Lk.t rfl)) <|
                    .cons (.no) _ _ (op_move (Lk.t rfl)) <|
                    .cons (.no) _ _ (op_index_sk (mk := meU) meD sl42 meU_len (Lk.t rfl) (Lk.t rfl) (by omega) (by omega)) <|
                    .cons (.no) _ _ (op_field_ptr fd34_2 (Lk.t rfl) rfl) <|
                    .cons (.no) _ _ (op_load_sc sc32 (Lk.t rfl) rfl) <|
                    .cons (.no) _ _ (op_move (Lk.t rfl)) <|
                    .cons (.rd 0) _ _ (op_index_som 0 sl32 (Lk.t rfl) (Lk.t rfl) rfl (by omega) (by omega)) <|
                    .cons (.wr 0) _ _ (op_store_som 0 (Lk.t rfl) (Lk.fk rfl (by decide +kernel)) co_flp sz37 rfl (by omega)) <|
                    .nil) ff rfl fun g29 => ⟨_, _, [0, 1, 2, 3, 4, 5, 6], rfl, (.cons 0 rfl <| .cons 1 rfl <| .cons 3 rfl <| .cons 4 rfl <| .cons 7 rfl <| .cons 15 rfl <| .cons 16 rfl <| .cons 23 rfl <| .cons 24 rfl <| .cons 25 rfl <| .nil), (.cons 0 rfl <| .cons 1 rfl <| .cons 2 rfl <| .cons 3 rfl <| .cons 4 rfl <| .cons 5 rfl <| .cons 6 rfl <| .nil), ?_⟩)
                refine JN_block ?_
                refine JN_then ?_
                refine (J_reg [] (
                    .cons (.no) _ _ (op_move (Lk.t rfl)) <|
                    .cons (.no) _ _ (op_add (Lk.t rfl) (Lk.k rfl) (wrap_id (by omega) (by omega))) <|
                    .cons (.no) _ _ (op_assign (Lk.t rfl)) <|
                    .nil) ff rfl fun g30 => ⟨_, _, [0, 1, 2, 3, 4, 5, 6], rfl, (.cons 0 rfl <| .cons 1 rfl <| .cons 3 rfl <| .cons 4 rfl <| .cons 7 rfl <| .cons 15 rfl <| .cons 16 rfl <| .cons 23 rfl <| .cons 24 rfl <| .cons 25 rfl <| .nil), (.cons 0 rfl <| .cons 1 rfl <| .cons 2 rfl <| .cons 3 rfl <| .cons 4 rfl <| .cons 5 rfl <| .cons 6 rfl <| .nil), ?_⟩)
                exact JN_again (z + 1) (by omega) (by omega) (To.pick (fun _ => .sub (t := 25) rfl (sp_eq (by rfl)) <| .cons 0 rfl <| .cons 1 rfl <| .cons 3 rfl <| .cons 4 rfl <| .cons 7 rfl <| .cons 15 rfl <| .cons 16 rfl <| .cons 23 rfl <| .cons 24 rfl <| .nil) (fun _ => .sub 0 rfl ((res_eq (by rw [← putV_set (by omega)]; rfl))) <| .cons 1 rfl <| .cons 2 rfl <| .cons 3 rfl <| .cons 4 rfl <| .cons 5 rfl <| .cons 6 rfl <| .nil) (ks := [0, 1, 2, 3, 4, 5, 6]) rfl)
              · have h9' := h9
                try simp only [cmpB, Bool.and_eq_true, Bool.or_eq_true, Bool.and_eq_false_iff, Bool.or_eq_false_iff, Bool.not_eq_true', Bool.not_eq_false', Bool.not_eq_true, Bool.not_eq_false, decide_eq_true_eq, decide_eq_false_iff_not, Int.not_lt, Int.not_le, beq_iff_eq, bne_iff_ne, beq_eq_false_iff_ne, bne_eq_false_iff_eq, ne_eq, Decidable.not_not] at h9
                refine J_exit ?_
                refine JN_then_exit ?_
                refine JN_then_exit ?_
                refine JN_exit_here ?_
                refine JN_block ?_
                refine JN_then ?_
                refine J_to (To.res 0 (r' := som (e2.getD w meD).u flp (List.replicate ((eOf (ansE (ls.map pcn) t i r c (hs.map cn) (rs.map cn) (cn q) (xs.map cn) es)) w).length 4635118810238550016) 37) rfl (res_eq (by rw [putV_all (by omega)])) rfl) ?_
                refine J_to (To.unfocus 1 0 w (by omega) rfl rfl rfl rfl) ?_
                refine J_to (To.res 1 (r' := pool 5 (plE e2 (wrL 4635118810238550016 (eOf (ansE (ls.map pcn) t i r c (hs.map cn) (rs.map cn) (cn q) (xs.map cn) es)) (w + 1)) 37)) rfl plE_fill rfl) ?_
                refine (J_reg [] (
                    .cons (.no) _ _ (op_move (Lk.t rfl)) <|
                    .cons (.no) _ _ (op_add (Lk.t rfl) (Lk.k rfl) (wrap_id (by omega) (by omega))) <|
                    .cons (.no) _ _ (op_assign (Lk.t rfl)) <|
                    .nil) ff rfl fun g31 => ⟨_, _, [1, 2, 3, 4, 5, 6], rfl, (.cons 0 rfl <| .cons 1 rfl <| .cons 3 rfl <| .cons 4 rfl <| .cons 7 rfl <| .cons 15 rfl <| .cons 16 rfl <| .cons 23 rfl <| .cons 24 rfl <| .nil), (.cons 1 rfl <| .cons 2 rfl <| .cons 3 rfl <| .cons 4 rfl <| .cons 5 rfl <| .cons 6 rfl <| .nil), ?_⟩)
                exact JN_again (w + 1) (by omega) (by omega) (To.pick (fun _ => .sub (t := 24) rfl (sp_eq (by rfl)) <| .cons 0 rfl <| .cons 1 rfl <| .cons 3 rfl <| .cons 4 rfl <| .cons 7 rfl <| .cons 15 rfl <| .cons 16 rfl <| .cons 23 rfl <| .nil) (fun _ => .sub 0 rfl ((fun _ _ h => h)) <| .cons 1 rfl <| .cons 2 rfl <| .cons 3 rfl <| .cons 4 rfl <| .cons 5 rfl <| .nil) (ks := [0, 1, 2, 3, 4, 5]) rfl)
          · have h7' := h7
            try simp only [cmpB, Bool.and_eq_true, Bool.or_eq_true, Bool.and_eq_false_iff, Bool.or_eq_false_iff, Bool.not_eq_true', Bool.not_eq_false', Bool.not_eq_true, Bool.not_eq_false, decide_eq_true_eq, decide_eq_false_iff_not, Int.not_lt, Int.not_le, beq_iff_eq, bne_iff_ne, beq_eq_false_iff_ne, bne_eq_false_iff_eq, ne_eq, Decidable.not_not] at h7
            refine J_exit ?_
            refine JN_then_exit ?_
            refine JN_then_exit ?_
            refine JN_exit_here ?_
            refine JN_then ?_
            refine J_to (To.emps 1) ?_
            refine J_seq (J_reg [] (
                .cons (.no) _ _ (op_build0L sl44) <|
                .cons (.no) _ _ (op_move (Lk.t rfl)) <|
                .cons (.rd 5) _ _ (op_append_e0L pure_strp 5 sl44 zr9 rfl (Lk.t rfl) (Lk.t rfl) rfl (by omega) (by omega)) <|
                .cons (.no) _ _ (op_assign (Lk.t rfl)) <|
                .nil) ff rfl fun g32 => ⟨_, _, [0, 1, 2, 3, 4, 5], rfl, (.cons 0 rfl <| .cons 1 rfl <| .cons 3 rfl <| .cons 4 rfl <| .cons 7 rfl <| .cons 15 rfl <| .cons 16 rfl <| .cons 26 rfl <| .nil), (.cons 0 rfl <| .cons 1 rfl <| .cons 2 rfl <| .cons 3 rfl <| .cons 4 rfl <| .cons 5 rfl <| .nil), ?_⟩)
            refine JN_then ?_
            refine J_seq ?_
            refine J_seq (J_reg [] (
                .cons (.no) _ _ (op_assign (Lk.k rfl)) <|
                .nil) ff rfl fun g33 => ⟨_, _, [0, 1, 2, 3, 4, 5], rfl, (.cons 0 rfl <| .cons 1 rfl <| .cons 3 rfl <| .cons 4 rfl <| .cons 7 rfl <| .cons 15 rfl <| .cons 16 rfl <| .cons 26 rfl <| .cons 27 rfl <| .nil), (.cons 0 rfl <| .cons 1 rfl <| .cons 2 rfl <| .cons 3 rfl <| .cons 4 rfl <| .cons 5 rfl <| .nil), ?_⟩)
            refine JN_then ?_
            refine J_block ?_
            refine J_loopc (α := Nat) (fun k => k ≤ (namesR (ls.map pcn)).a.length) (fun k => (namesR (ls.map pcn)).a.length - k) (fun k restR => (27, isv (.int .i64 (k : Int))) :: restR) (fun k restS => som (tp0 (g4 50)) strp (putV (ByteArray.mk #[120]) (namesR (ls.map pcn)).a k) 9 :: restS) (ρc := [(0, _), (1, _), (3, _), (4, _), (7, _), (15, _), (16, _), (26, _)]) (σc := [_, _, _, _, _]) 0 (by exact Nat.zero_le _) (To.pick (fun _ => .sub (t := 27) rfl (sp_eq (by rfl)) <| .cons 0 rfl <| .cons 1 rfl <| .cons 3 rfl <| .cons 4 rfl <| .cons 7 rfl <| .cons 15 rfl <| .cons 16 rfl <| .cons 26 rfl <| .nil) (fun _ => .sub 5 rfl ((res_eq rfl)) <| .cons 0 rfl <| .cons 1 rfl <| .cons 2 rfl <| .cons 3 rfl <| .cons 4 rfl <| .nil) (ks := [5, 0, 1, 2, 3, 4]) rfl) (fun k hI => ?_)
            have hpl := length_putV (v := (ByteArray.mk #[120])) (xs := (namesR (ls.map pcn)).a) hI
            refine J_seq ?_
            refine J_seq (J_reg [] (
                .cons (.no) _ _ (op_move (Lk.t rfl)) <|
                .cons (.no) _ _ (op_move (Lk.t rfl)) <|
                .cons (.rd 0) _ _ (op_len_som 0 sl44 (Lk.t rfl) rfl) <|
                .cons (.no) _ _ (op_cmp (by simp) (Lk.t rfl) (Lk.t rfl) rfl) <|
                .nil) ff rfl fun g34 => ⟨_, _, [0, 1, 2, 3, 4, 5], rfl, (.cons 0 rfl <| .cons 1 rfl <| .cons 3 rfl <| .cons 4 rfl <| .cons 7 rfl <| .cons 15 rfl <| .cons 16 rfl <| .cons 26 rfl <| .cons 27 rfl <| .cons 183 rfl <| .nil), (.cons 0 rfl <| .cons 1 rfl <| .cons 2 rfl <| .cons 3 rfl <| .cons 4 rfl <| .cons 5 rfl <| .nil), ?_⟩)
            refine JN_then ?_
            refine J_cond (cond_of (Lk.t rfl)) (fun h10 => ?_) (fun h10 => ?_)
            · have h10' := h10
              try simp only [cmpB, Bool.and_eq_true, Bool.or_eq_true, Bool.and_eq_false_iff, Bool.or_eq_false_iff, Bool.not_eq_true', Bool.not_eq_false', Bool.not_eq_true, Bool.not_eq_false, decide_eq_true_eq, decide_eq_false_iff_not, Int.not_lt, Int.not_le, beq_iff_eq, bne_iff_ne, beq_eq_false_iff_ne, bne_eq_false_iff_eq, ne_eq, Decidable.not_not] at h10
              refine J_skip ?_
              refine JN_then ?_
              refine J_seq ?_
              refine J_block ?_
              refine (J_reg [] (
                  .cons (.no) _ _ (op_move (Lk.t rfl)) <|
                  .cons (.no) _ _ (op_move (Lk.t rfl)) <|
                  .cons (.rd 0) _ _ (op_index_som 0 sl44 (Lk.t rfl) (Lk.t rfl) rfl (by omega) (by omega)) <|
                  .cons (.wr 0) _ _ (op_store_som (mk := strp) (v := (ByteArray.mk #[120])) 0 (Lk.t rfl) (Lk.sub (sb_eq rfl) (Lk.k rfl)) co_isv sz9 rfl (by omega)) <|
                  .nil) ff rfl fun g35 => ⟨_, _, [0, 1, 2, 3, 4, 5], rfl, (.cons 0 rfl <| .cons 1 rfl <| .cons 3 rfl <| .cons 4 rfl <| .cons 7 rfl <| .cons 15 rfl <| .cons 16 rfl <| .cons 26 rfl <| .cons 27 rfl <| .nil), (.cons 0 rfl <| .cons 1 rfl <| .cons 2 rfl <| .cons 3 rfl <| .cons 4 rfl <| .cons 5 rfl <| .nil), ?_⟩)
              refine JN_block ?_
              refine JN_then ?_
              refine (J_reg [] (
                  .cons (.no) _ _ (op_move (Lk.t rfl)) <|
                  .cons (.no) _ _ (op_add (Lk.t rfl) (Lk.k rfl) (wrap_id (by omega) (by omega))) <|
                  .cons (.no) _ _ (op_assign (Lk.t rfl)) <|
                  .nil) ff rfl fun g36 => ⟨_, _, [0, 1, 2, 3, 4, 5], rfl, (.cons 0 rfl <| .cons 1 rfl <| .cons 3 rfl <| .cons 4 rfl <| .cons 7 rfl <| .cons 15 rfl <| .cons 16 rfl <| .cons 26 rfl <| .cons 27 rfl <| .nil), (.cons 0 rfl <| .cons 1 rfl <| .cons 2 rfl <| .cons 3 rfl <| .cons 4 rfl <| .cons 5 rfl <| .nil), ?_⟩)
              exact JN_again (k + 1) (by omega) (by omega) (To.pick (fun _ => .sub (t := 27) rfl (sp_eq (by rfl)) <| .cons 0 rfl <| .cons 1 rfl <| .cons 3 rfl <| .cons 4 rfl <| .cons 7 rfl <| .cons 15 rfl <| .cons 16 rfl <| .cons 26 rfl <| .nil) (fun _ => .sub 0 rfl ((res_eq (by rw [← putV_set (by omega)]))) <| .cons 1 rfl <| .cons 2 rfl <| .cons 3 rfl <| .cons 4 rfl <| .cons 5 rfl <| .nil) (ks := [0, 1, 2, 3, 4, 5]) rfl)
            · have h10' := h10
              try simp only [cmpB, Bool.and_eq_true, Bool.or_eq_true, Bool.and_eq_false_iff, Bool.or_eq_false_iff, Bool.not_eq_true', Bool.not_eq_false', Bool.not_eq_true, Bool.not_eq_false, decide_eq_true_eq, decide_eq_false_iff_not, Int.not_lt, Int.not_le, beq_iff_eq, bne_iff_ne, beq_eq_false_iff_ne, bne_eq_false_iff_eq, ne_eq, Decidable.not_not] at h10
              refine J_exit ?_
              refine JN_then_exit ?_
              refine JN_then_exit ?_
              refine JN_exit_here ?_
              refine JN_then ?_
              refine J_seq (J_reg [] (
                  .cons (.no) _ _ (op_move (Lk.t rfl)) <|
                  .cons (.no) _ _ (op_call (motion_ok hl) ⟨(Lk.t rfl),  trivial⟩) <|
                  .cons (.no) _ _ (op_call (mnames_ok) ⟨(Lk.t rfl),  trivial⟩) <|
                  .cons (.no) _ _ (op_move (Lk.t rfl)) <|
                  .cons (.no) _ _ (op_extract (Lk.t rfl) rfl) <|
                  .cons (.no) _ _ (op_extract (Lk.t rfl) rfl) <|
                  .cons (.no) _ _ (op_assign (Lk.t rfl)) <|
                  .cons (.no) _ _ (op_assign (Lk.t rfl)) <|
                  .nil) ff rfl fun g37 => ⟨_, _, [0, 1, 2, 3, 4, 5], rfl, (.cons 0 rfl <| .cons 1 rfl <| .cons 3 rfl <| .cons 4 rfl <| .cons 7 rfl <| .cons 15 rfl <| .cons 26 rfl <| .cons 28 rfl <| .nil), (.cons 0 rfl <| .cons 1 rfl <| .cons 2 rfl <| .cons 3 rfl <| .cons 4 rfl <| .cons 5 rfl <| .nil), ?_⟩)
              refine JN_then ?_
              refine J_to (To.emps 1) ?_
              refine J_seq (J_reg [[], [0], [], [], [0, 1, 3], [], [0, 1, 3, 4, 5], [], [], [0, 1, 3, 4, 5, 6, 7, 8], [0, 1, 2, 3, 4, 5, 6, 7, 8, 9], [0, 1, 2, 3, 4, 5, 6, 7, 8, 9, 10]] (
                  .cons (.no) _ _ (op_move (Lk.t rfl)) <|
                  .cons (.no) _ _ (op_call (motion_ok hl) ⟨(Lk.t rfl),  trivial⟩) <|
                  .cons (.no) _ _ (op_move (Lk.t rfl)) <|
                  .cons (.rd 5) _ _ (op_get_ag 5 ag26 (Lk.t rfl) rfl mem_blk rfl rfl) <|
                  .cons (.no) _ _ (op_call (sensor_ok hh hr hq) ⟨(Lk.t rfl),  trivial⟩) <|
                  .cons (.no) _ _ (op_move (Lk.t rfl)) <|
                  .cons (.no) _ _ (op_call (of64_ok hx.1 hx.2) ⟨(Lk.t rfl),  trivial⟩) <|
                  .cons (.no) _ _ (op_build0L sl27) <|
                  .cons (.no) _ _ (op_move (Lk.t rfl)) <|
                  .cons (.no) _ _ (op_append_e0 sl27 zr3 rfl (Lk.t rfl) (Lk.t rfl) (by omega) (by omega)) <|
                  .cons (.no) _ _ (op_call (ans_ok) ⟨(Lk.t rfl), (Lk.t rfl), (Lk.t rfl), (Lk.t rfl), (Lk.t rfl),  trivial⟩) <|
                  .cons (.no) _ _ (op_assign (Lk.t rfl)) <|
                  .nil) (fun _ => mixed) rfl fun g38 => ⟨_, _, [0, 1, 2, 3, 4], rfl, (.cons 15 rfl <| .cons 26 rfl <| .cons 28 rfl <| .cons 30 rfl <| .nil), (.cons 0 rfl <| .cons 1 rfl <| .cons 2 rfl <| .cons 3 rfl <| .cons 4 rfl <| .nil), ?_⟩)
              refine JN_then ?_
              refine J_seq ?_
              refine J_seq (J_reg [] (
                  .cons (.no) _ _ (op_assign (Lk.k rfl)) <|
                  .nil) ff rfl fun g39 => ⟨_, _, [0, 1, 2, 3, 4], rfl, (.cons 15 rfl <| .cons 26 rfl <| .cons 28 rfl <| .cons 30 rfl <| .cons 31 rfl <| .nil), (.cons 0 rfl <| .cons 1 rfl <| .cons 2 rfl <| .cons 3 rfl <| .cons 4 rfl <| .nil), ?_⟩)
              refine JN_then ?_
              refine J_block ?_
              refine J_loopc (α := Nat) (fun w => w ≤ 5) (fun w => 5 - w) (fun w restR => (31, isv (.int .i64 (w : Int))) :: restR) (fun w restS => restS) (ρc := [(15, _), (26, _), (28, _), (30, _)]) (σc := [_, _, _, _, _]) 0 (by exact Nat.zero_le _) (To.pick (fun _ => .sub (t := 31) rfl (sp_eq (by rfl)) <| .cons 15 rfl <| .cons 26 rfl <| .cons 28 rfl <| .cons 30 rfl <| .nil) (fun _ => .cons 0 rfl <| .cons 1 rfl <| .cons 2 rfl <| .cons 3 rfl <| .cons 4 rfl <| .nil) (ks := [0, 1, 2, 3, 4]) rfl) (fun w hI => ?_)
              have hal : (ansE (ls.map pcn) t i r c (hs.map cn) (rs.map cn) (cn q) (xs.map cn) es).length = 5 := rfl
              refine J_seq ?_
              refine J_seq (J_reg [] (
                  .cons (.no) _ _ (op_move (Lk.t rfl)) <|
                  .cons (.no) _ _ (op_move (Lk.t rfl)) <|
                  .cons (.no) _ _ (op_len_sk sl42 (Lk.t rfl)) <|
                  .cons (.no) _ _ (op_cmp (by simp) (Lk.t rfl) (Lk.t rfl) rfl) <|
                  .nil) ff rfl fun g40 => ⟨_, _, [0, 1, 2, 3, 4], rfl, (.cons 15 rfl <| .cons 26 rfl <| .cons 28 rfl <| .cons 30 rfl <| .cons 31 rfl <| .cons 209 rfl <| .nil), (.cons 0 rfl <| .cons 1 rfl <| .cons 2 rfl <| .cons 3 rfl <| .cons 4 rfl <| .nil), ?_⟩)
              refine JN_then ?_
              refine J_cond (cond_of (Lk.t rfl)) (fun h11 => ?_) (fun h11 => ?_)
              · have h11' := h11
                try simp only [cmpB, Bool.and_eq_true, Bool.or_eq_true, Bool.and_eq_false_iff, Bool.or_eq_false_iff, Bool.not_eq_true', Bool.not_eq_false', Bool.not_eq_true, Bool.not_eq_false, decide_eq_true_eq, decide_eq_false_iff_not, Int.not_lt, Int.not_le, beq_iff_eq, bne_iff_ne, beq_eq_false_iff_ne, bne_eq_false_iff_eq, ne_eq, Decidable.not_not] at h11
                refine J_skip ?_
                refine JN_then ?_
                refine J_seq ?_
                refine J_block ?_
                refine J_seq (J_reg [[], [], [0, 1], [0, 1, 2], [], [], [4, 5], [4, 5, 6], [0, 1, 2, 3, 4, 5, 6, 7], [0, 1, 2, 3, 4, 5, 6, 7, 8]] (
                    .cons (.no) _ _ (op_move (Lk.t rfl)) <|
                    .cons (.no) _ _ (op_move (Lk.t rfl)) <|
                    .cons (.no) _ _ (op_index_sk (mk := mtM) mxD sl42 mtM_len (Lk.t rfl) (Lk.t rfl) (by omega) (by omega)) <|
                    .cons (.no) _ _ (op_load_ag ag34 (Lk.t rfl) rfl rfl) <|
                    .cons (.no) _ _ (op_move (Lk.t rfl)) <|
                    .cons (.no) _ _ (op_move (Lk.t rfl)) <|
                    .cons (.no) _ _ (op_index_sk (mk := mtM) mxD sl42 mtM_len (Lk.t rfl) (Lk.t rfl) (by omega) (by omega)) <|
                    .cons (.no) _ _ (op_load_ag ag34 (Lk.t rfl) rfl rfl) <|
                    .cons (.no) _ _ (op_call (told14_ok) ⟨(Lk.t rfl), (Lk.k rfl), (Lk.t rfl), (Lk.k rfl),  trivial⟩) <|
                    .cons (.no) _ _ (op_not (Lk.t rfl)) <|
                    .nil) (fun _ => mixed) rfl fun g41 => ⟨_, _, [0, 1, 2, 3, 4], rfl, (.cons 15 rfl <| .cons 26 rfl <| .cons 28 rfl <| .cons 30 rfl <| .cons 31 rfl <| .cons 221 rfl <| .nil), (.cons 0 rfl <| .cons 1 rfl <| .cons 2 rfl <| .cons 3 rfl <| .cons 4 rfl <| .nil), ?_⟩)
                refine JN_then ?_
                refine J_cond (cond_of (Lk.t rfl)) (fun h12 => ?_) (fun h12 => ?_)
                · have h12' := h12
                  try simp only [cmpB, Bool.and_eq_true, Bool.or_eq_true, Bool.and_eq_false_iff, Bool.or_eq_false_iff, Bool.not_eq_true', Bool.not_eq_false', Bool.not_eq_true, Bool.not_eq_false, decide_eq_true_eq, decide_eq_false_iff_not, Int.not_lt, Int.not_le, beq_iff_eq, bne_iff_ne, beq_eq_false_iff_ne, bne_eq_false_iff_eq, ne_eq, Decidable.not_not] at h12
                  exact absurd h12' (by rw [tolB_s]; simp)
                · have h12' := h12
                  try simp only [cmpB, Bool.and_eq_true, Bool.or_eq_true, Bool.and_eq_false_iff, Bool.or_eq_false_iff, Bool.not_eq_true', Bool.not_eq_false', Bool.not_eq_true, Bool.not_eq_false, decide_eq_true_eq, decide_eq_false_iff_not, Int.not_lt, Int.not_le, beq_iff_eq, bne_iff_ne, beq_eq_false_iff_ne, bne_eq_false_iff_eq, ne_eq, Decidable.not_not] at h12
                  refine J_skip ?_
                  refine JN_block ?_
                  refine JN_then ?_
                  refine (J_reg [] (
                      .cons (.no) _ _ (op_move (Lk.t rfl)) <|
                      .cons (.no) _ _ (op_add (Lk.t rfl) (Lk.k rfl) (wrap_id (by omega) (by omega))) <|
                      .cons (.no) _ _ (op_assign (Lk.t rfl)) <|
                      .nil) ff rfl fun g42 => ⟨_, _, [0, 1, 2, 3, 4], rfl, (.cons 15 rfl <| .cons 26 rfl <| .cons 28 rfl <| .cons 30 rfl <| .cons 31 rfl <| .nil), (.cons 0 rfl <| .cons 1 rfl <| .cons 2 rfl <| .cons 3 rfl <| .cons 4 rfl <| .nil), ?_⟩)
                  exact JN_again (w + 1) (by omega) (by omega) (To.pick (fun _ => .sub (t := 31) rfl (sp_eq (by rfl)) <| .cons 15 rfl <| .cons 26 rfl <| .cons 28 rfl <| .cons 30 rfl <| .nil) (fun _ => .cons 0 rfl <| .cons 1 rfl <| .cons 2 rfl <| .cons 3 rfl <| .cons 4 rfl <| .nil) (ks := [0, 1, 2, 3, 4]) rfl)
              · have h11' := h11
                try simp only [cmpB, Bool.and_eq_true, Bool.or_eq_true, Bool.and_eq_false_iff, Bool.or_eq_false_iff, Bool.not_eq_true', Bool.not_eq_false', Bool.not_eq_true, Bool.not_eq_false, decide_eq_true_eq, decide_eq_false_iff_not, Int.not_lt, Int.not_le, beq_iff_eq, bne_iff_ne, beq_eq_false_iff_ne, bne_eq_false_iff_eq, ne_eq, Decidable.not_not] at h11
                refine J_exit ?_
                refine JN_then_exit ?_
                refine JN_then_exit ?_
                refine JN_exit_here ?_
                refine JN_then ?_
                refine J_seq ?_
                refine J_seq (J_reg [] (
                    .cons (.no) _ _ (op_assign (Lk.k rfl)) <|
                    .nil) ff rfl fun g43 => ⟨_, _, [0, 1, 2, 3, 4], rfl, (.cons 26 rfl <| .cons 28 rfl <| .cons 32 rfl <| .nil), (.cons 0 rfl <| .cons 1 rfl <| .cons 2 rfl <| .cons 3 rfl <| .cons 4 rfl <| .nil), ?_⟩)
                refine JN_then ?_
                refine J_block ?_
                refine J_loopc (α := Nat) (fun w => w ≤ (namesR (ls.map pcn)).a.length) (fun w => (namesR (ls.map pcn)).a.length - w) (fun w restR => (32, isv (.int .i64 (w : Int))) :: restR) (fun w restS => restS) (ρc := [(26, _), (28, _)]) (σc := [_, _, _, _, _]) 0 (by exact Nat.zero_le _) (To.pick (fun _ => .sub (t := 32) rfl (sp_eq (by rfl)) <| .cons 26 rfl <| .cons 28 rfl <| .nil) (fun _ => .cons 0 rfl <| .cons 1 rfl <| .cons 2 rfl <| .cons 3 rfl <| .cons 4 rfl <| .nil) (ks := [0, 1, 2, 3, 4]) rfl) (fun w hI => ?_)
                refine J_seq ?_
                refine J_seq (J_reg [] (
                    .cons (.no) _ _ (op_move (Lk.t rfl)) <|
                    .cons (.no) _ _ (op_move (Lk.t rfl)) <|
                    .cons (.no) _ _ (op_len_m sl44 (Lk.t rfl)) <|
                    .cons (.no) _ _ (op_cmp (by simp) (Lk.t rfl) (Lk.t rfl) rfl) <|
                    .nil) ff rfl fun g44 => ⟨_, _, [0, 1, 2, 3, 4], rfl, (.cons 26 rfl <| .cons 28 rfl <| .cons 32 rfl <| .cons 225 rfl <| .nil), (.cons 0 rfl <| .cons 1 rfl <| .cons 2 rfl <| .cons 3 rfl <| .cons 4 rfl <| .nil), ?_⟩)
                refine JN_then ?_
                refine J_cond (cond_of (Lk.t rfl)) (fun h13 => ?_) (fun h13 => ?_)
                · have h13' := h13
                  try simp only [cmpB, Bool.and_eq_true, Bool.or_eq_true, Bool.and_eq_false_iff, Bool.or_eq_false_iff, Bool.not_eq_true', Bool.not_eq_false', Bool.not_eq_true, Bool.not_eq_false, decide_eq_true_eq, decide_eq_false_iff_not, Int.not_lt, Int.not_le, beq_iff_eq, bne_iff_ne, beq_eq_false_iff_ne, bne_eq_false_iff_eq, ne_eq, Decidable.not_not] at h13
                  refine J_skip ?_
                  refine JN_then ?_
                  refine J_seq ?_
                  refine J_block ?_
                  refine J_seq (J_reg [[], [0], [], [2], [0, 1, 2, 3], [0, 1, 2, 3, 4], [0, 1, 2, 3, 4, 5], [0, 1, 2, 3, 4, 5], [0, 1, 2, 3, 4, 5, 6, 7], [0, 1, 2, 3, 4, 5, 6, 7, 8], [0, 1, 2, 3, 4, 5], [0, 1, 2, 3, 4, 5], [0, 1, 2, 3, 4, 5, 10, 11], [0, 1, 2, 3, 4, 5, 10, 11, 12], [0, 1, 2, 3, 4, 5, 6, 7, 8, 9, 10, 11, 12, 13], [0, 1, 2, 3, 4, 5, 6, 7, 8, 9, 10, 11, 12, 13, 14]] (
                      .cons (.no) _ _ (op_move (Lk.t rfl)) <|
                      .cons (.no) _ _ (op_len_m sl44 (Lk.t rfl)) <|
                      .cons (.no) _ _ (op_move (Lk.t rfl)) <|
                      .cons (.no) _ _ (op_len_m sl44 (Lk.t rfl)) <|
                      .cons (.no) _ _ (op_cmp (by simp) (Lk.t rfl) (Lk.t rfl) rfl) <|
                      .cons (.no) _ _ (op_move (Lk.t rfl)) <|
                      .cons (.no) _ _ (op_guard rfl rfl (gd_b rfl) (fun hC => (op_move (Lk.t rfl)))) <|
                      .cons (.no) _ _ (op_guard rfl rfl (gd_b rfl) (fun hC => (op_move (Lk.t rfl)))) <|
                      .cons (.no) _ _ (op_guard rfl rfl (gd_b rfl) (fun hC => (op_index_m (⟨#[]⟩ : ByteArray) sl44 (Lk.w rfl hC) (Lk.w rfl hC) (by omega) (by omega)))) <|
                      .cons (.no) _ _ (op_guard rfl rfl (gd_b rfl) (fun hC => (op_load_sc sc9 (Lk.w rfl hC) rfl))) <|
                      .cons (.no) _ _ (op_guard rfl rfl (gd_b rfl) (fun hC => (op_move (Lk.t rfl)))) <|
                      .cons (.no) _ _ (op_guard rfl rfl (gd_b rfl) (fun hC => (op_move (Lk.t rfl)))) <|
                      .cons (.no) _ _ (op_guard rfl rfl (gd_b rfl) (fun hC => (op_index_m (⟨#[]⟩ : ByteArray) sl44 (Lk.w rfl hC) (Lk.w rfl hC) (by omega) (by omega)))) <|
                      .cons (.no) _ _ (op_guard rfl rfl (gd_b rfl) (fun hC => (op_load_sc sc9 (Lk.w rfl hC) rfl))) <|
                      .cons (.no) _ _ (op_guard rfl rfl (gd_b rfl) (fun hC => (op_scmp (by simp) (Lk.w rfl hC) (Lk.w rfl hC) rfl))) <|
                      .cons (.no) _ _ (op_or (Lk.t rfl) (fun h2 => (Lk.w rfl h2))) <|
                      .nil) (fun _ => mixed) rfl fun g45 => ⟨_, _, [0, 1, 2, 3, 4], rfl, (.cons 26 rfl <| .cons 28 rfl <| .cons 32 rfl <| .cons 243 rfl <| .nil), (.cons 0 rfl <| .cons 1 rfl <| .cons 2 rfl <| .cons 3 rfl <| .cons 4 rfl <| .nil), ?_⟩)
                  refine JN_then ?_
                  refine J_cond (cond_of (Lk.t rfl)) (fun h14 => ?_) (fun h14 => ?_)
                  · have h14' := h14
                    try simp only [cmpB, Bool.and_eq_true, Bool.or_eq_true, Bool.and_eq_false_iff, Bool.or_eq_false_iff, Bool.not_eq_true', Bool.not_eq_false', Bool.not_eq_true, Bool.not_eq_false, decide_eq_true_eq, decide_eq_false_iff_not, Int.not_lt, Int.not_le, beq_iff_eq, bne_iff_ne, beq_eq_false_iff_ne, bne_eq_false_iff_eq, ne_eq, Decidable.not_not] at h14
                    exact absurd h14' (by simp [cmpB, scmp_self])
                  · have h14' := h14
                    try simp only [cmpB, Bool.and_eq_true, Bool.or_eq_true, Bool.and_eq_false_iff, Bool.or_eq_false_iff, Bool.not_eq_true', Bool.not_eq_false', Bool.not_eq_true, Bool.not_eq_false, decide_eq_true_eq, decide_eq_false_iff_not, Int.not_lt, Int.not_le, beq_iff_eq, bne_iff_ne, beq_eq_false_iff_ne, bne_eq_false_iff_eq, ne_eq, Decidable.not_not] at h14
                    refine J_skip ?_
                    refine JN_block ?_
                    refine JN_then ?_
                    refine (J_reg [] (
                        .cons (.no) _ _ (op_move (Lk.t rfl)) <|
                        .cons (.no) _ _ (op_add (Lk.t rfl) (Lk.k rfl) (wrap_id (by omega) (by omega))) <|
                        .cons (.no) _ _ (op_assign (Lk.t rfl)) <|
                        .nil) ff rfl fun g46 => ⟨_, _, [0, 1, 2, 3, 4], rfl, (.cons 26 rfl <| .cons 28 rfl <| .cons 32 rfl <| .nil), (.cons 0 rfl <| .cons 1 rfl <| .cons 2 rfl <| .cons 3 rfl <| .cons 4 rfl <| .nil), ?_⟩)
                    exact JN_again (w + 1) (by omega) (by omega) (To.pick (fun _ => .sub (t := 32) rfl (sp_eq (by rfl)) <| .cons 26 rfl <| .cons 28 rfl <| .nil) (fun _ => .cons 0 rfl <| .cons 1 rfl <| .cons 2 rfl <| .cons 3 rfl <| .cons 4 rfl <| .nil) (ks := [0, 1, 2, 3, 4]) rfl)
                · have h13' := h13
                  try simp only [cmpB, Bool.and_eq_true, Bool.or_eq_true, Bool.and_eq_false_iff, Bool.or_eq_false_iff, Bool.not_eq_true', Bool.not_eq_false', Bool.not_eq_true, Bool.not_eq_false, decide_eq_true_eq, decide_eq_false_iff_not, Int.not_lt, Int.not_le, beq_iff_eq, bne_iff_ne, beq_eq_false_iff_ne, bne_eq_false_iff_eq, ne_eq, Decidable.not_not] at h13
                  refine J_exit ?_
                  refine JN_then_exit ?_
                  refine JN_then_exit ?_
                  refine JN_exit_here ?_
                  refine JN_then ?_
                  refine J_seq (J_reg [] (
                      .cons (.no) _ _ (op_assign (Lk.k rfl)) <|
                      .nil) ff rfl fun g47 => ⟨_, _, [0, 1, 2, 3, 4], rfl, (.cons 10 rfl <| .nil), (.cons 0 rfl <| .cons 1 rfl <| .cons 2 rfl <| .cons 3 rfl <| .cons 4 rfl <| .nil), ?_⟩)
                  refine JN_then ?_
                  refine J_ret ?_
                  refine JN_ret (.cons (.tmp (Lk.t rfl)) <| .nil) (sb_trans (sb_res1 sb_refl) ?_)
                  exact sb_refl
end Go.Proofs.YtjfkpnacfnnkhaaDoor
