/- Printed by a program of ours (walk.py): the walk of QrFresh. -/
import Derived.Test.YtllkellonjhalaaFqKb
import Derived.Test.YtllkellonjhalaaProg
import Derived.KernelRfl
import Derived.Test.YtllkellonjhalaaFqTypes
import Derived.Test.YtllkellonjhalaaFqWAnsq
set_option linter.unusedVariables false
set_option linter.unusedSimpArgs false
set_option maxRecDepth 20000
set_option maxHeartbeats 1000000
namespace Go.Proofs.Ytllkellonjhalaa
open Go Go.Bn
attribute [local irreducible] OpOK
theorem qlinev_ok {u : Value} {xs : List Nat} : Ct Try.prog 11 [slv u xs] (aggp [isv (.int .i64 1), isv (.int .i64 (xs.length : Int)), isv u]) := by
 refine Ct.of Try.func11 rfl (by kernel_rfl) rfl fun c0 => ?_
 refine J_to (To.emps 1) ?_
 refine J_seq (J_reg [] (.cons (.wr 0) _ _ (op_alloc 0 zr29 rfl rfl) <| .nil) ff rfl fun g1 => ⟨_, _, [0], rfl, (.cons 0 rfl <| .cons 2 rfl <| .nil), (.cons 0 rfl <| .nil), ?_⟩)
 refine JN_then ?_
 refine J_seq (J_reg [] (.cons (.no) _ _ (op_move (Lk.t rfl)) <| .cons (.no) _ _ (op_len_m sl27 (Lk.sub sb_slv (Lk.t rfl))) <| .cons (.no) _ _ (op_move (Lk.sub sb_slvu (Lk.t rfl))) <| .cons (.no) _ _ (op_build zr29 rfl pl29 (.cons rfl (Lk.k rfl) co_isv rfl (puts_l rfl (Nat.le_of_ble_eq_true rfl)) (.cons rfl (Lk.t rfl) co_isv rfl (puts_l rfl (Nat.le_of_ble_eq_true rfl)) (.cons rfl (Lk.t rfl) co_isv rfl (puts_l rfl (Nat.le_of_ble_eq_true rfl)) .nil)))) <| .cons (.wr 0) _ _ (op_store_b 0 (Lk.t rfl) (Lk.t rfl) co_agg sz29 rfl rfl rfl) <| .nil) ff rfl fun g2 => ⟨_, _, [0], rfl, (.cons 2 rfl <| .nil), (.cons 0 rfl <| .nil), ?_⟩)
 refine JN_then ?_
 refine J_ret ?_
 refine JN_ret (.cons (.ag 0 (Lk.t rfl) ag29 rfl rfl rfl) <| .nil) (sb_trans (sb_res1 sb_refl) ?_)
 exact sb_refl
theorem xTwo_le {ms : List Mt} {a b : List Nat} {i : Nat} (hm : GoodMs ms) (ha : a.length ≤ 17592186044416) (hb : b.length ≤ 17592186044416) : (xTwo (ms.map mcn) a b i).length ≤ 17592186044416 := by
 unfold xTwo
 split
 ·rename_i h
  rw [List.length_map] at h
  rw [aOf_mcn h, List.length_map]
  have := (goodMs_at hm h).2
  omega
 ·split
  ·exact ha
  ·exact hb
theorem ansq_ok {r c i k : Int} {xs us : List Nat} {ms : List Mt} {x y : Nat} (hx : LtL xs) (hu : LtL us) (hm : ∀ j, LtL (ms.getD j mtD).a) (hxx : x < 2 ^ 64) (hyy : y < 2 ^ 64) : Ct Try.prog 7 [MatP r c xs, fls us, slk 3 mtU ms, isv (.int .i64 i), isv (.int .i64 k), flp x, flp y] (slk 3 mtM (ansQ r c xs us ms i k x y)) := (ansqN_ok hx hu hm hxx hyy).ct
theorem qfresh_ok {r c i k : Int} {bs us : List Nat} {ms : List Mt} {x y : Nat} (hb : GoodU bs) (hu : GoodU us) (hm9 : (∀ m, m ∈ ms → GoodU m.a) ∧ ms.length * 40 ≤ 140737488351232) (hx : x < 2 ^ 64) (hy : y < 2 ^ 64) : Ct Try.prog 3 [MatU r c bs, wsl us, slk 3 mtW ms, isv (.int .i64 i), isv (.int .i64 k), u64p x, u64p y] (isv (.bool true)) := by
 refine Ct.of Try.func3 rfl (by kernel_rfl) rfl fun c0 => ?_
 have hm : GoodMs ms := ⟨hm9.1, Nat.le_trans hm9.2 (by decide)⟩
 have hm2 := hm9.2
 refine J_to (To.emps 1) ?_
 refine J_seq (J_reg [] (.cons (.wr 0) _ _ (op_box 0 (Lk.t rfl) co_agg rfl) <| .cons (.no) _ _ (op_assign (Lk.k rfl)) <| .nil) ff rfl fun g1 => ⟨_, _, [0], rfl, (.cons 1 rfl <| .cons 2 rfl <| .cons 3 rfl <| .cons 4 rfl <| .cons 5 rfl <| .cons 6 rfl <| .cons 7 rfl <| .nil), (.cons 0 rfl <| .nil), ?_⟩)
 refine JN_then ?_
 refine J_to (To.emps 4) ?_
 refine J_seq (J_reg [] (.cons (.rd 0) _ _ (op_get_ag 0 ag24 (Lk.t rfl) rfl mem_blk rfl rfl) <| .cons (.wr 1) _ _ (op_callF 1 (qofF_ok hb) ⟨(Lk.t rfl),  trivial⟩ rfl) <| .cons (.no) _ _ (op_move (Lk.t rfl)) <| .cons (.wr 2) _ _ (op_callF 2 (qlF_ok hu) ⟨(Lk.t rfl),  trivial⟩ rfl) <| .cons (.no) _ _ (op_move (Lk.t rfl)) <| .cons (.wr 3) _ _ (op_callF 3 (allF_ok hm) ⟨(Lk.t rfl),  trivial⟩ rfl) <| .cons (.wr 4) _ _ (op_alloc 4 zr29 rfl rfl) <| .cons (.wr 4) _ _ (op_store_new_ve 4 rfl rfl rfl (fun f => co_agg) (fun f g h => by rw [h 25 (show 25 ∈ [25] from by decide)]) (fun _ => sz29) rfl (fun _ => rfl) rfl) <| .cons (.no) _ _ (op_assign_ve rfl rfl) <| .cons (.no) _ _ (op_assign_ve rfl rfl) <| .nil) ff rfl fun g2 => ⟨_, _, [0, 1, 2, 3, 4], rfl, (.cons 1 rfl <| .cons 2 rfl <| .cons 3 rfl <| .cons 4 rfl <| .cons 5 rfl <| .cons 6 rfl <| .cons 7 rfl <| .cons 15 rfl <| .cons 16 rfl <| .cons 17 rfl <| .nil), (.cons 0 rfl <| .cons 1 rfl <| .cons 2 rfl <| .cons 3 rfl <| .cons 4 rfl <| .nil), ?_⟩)
 refine JN_then ?_
 refine J_to (To.join 1 2 rfl rfl rfl rfl) ?_
 refine J_to (To.join 1 3 rfl rfl rfl rfl) ?_
 refine J_seq (J_reg [[], [], [], [], [], [], [5], [], [5, 6, 7], [0, 1, 2, 3, 4, 5, 6, 7, 8], [0, 1, 2, 3, 4, 5, 6, 7, 8, 9]] (.cons (.rd 4) _ _ (op_get_ag 4 ag29 (Lk.t rfl) rfl mem_blk rfl rfl) <| .cons (.no) _ _ (op_move (Lk.t rfl)) <| .cons (.no) _ _ (op_move (Lk.t rfl)) <| .cons (.no) _ _ (op_move (Lk.t rfl)) <| .cons (.no) _ _ (op_move (Lk.t rfl)) <| .cons (.no) _ _ (op_move (Lk.t rfl)) <| .cons (.no) _ _ (op_call (f_ok (by assumption)) ⟨(Lk.t rfl),  trivial⟩) <| .cons (.no) _ _ (op_move (Lk.t rfl)) <| .cons (.no) _ _ (op_call (f_ok (by assumption)) ⟨(Lk.t rfl),  trivial⟩) <| .cons (.rd 1) _ _ (op_callLN 1 (ansqN_ok (ltL_cn2 hb.1) (ltL_cn2 hu.1) (goodMs_lt hm) (cn_lt hx) (cn_lt hy)) ⟨.inr ⟨_, Lk.t rfl, lent_l (lent_l lent_matN)⟩, .inr ⟨_, (Lk.t rfl), (lent_l (lent_r lent_som))⟩, .inr ⟨_, (Lk.t rfl), (lent_r lent_mats)⟩, .inl (Lk.t rfl), .inl (Lk.t rfl), .inl (Lk.t rfl), .inl (Lk.t rfl),  trivial⟩ rfl) <| .cons (.no) _ _ (op_assign (Lk.t rfl)) <| .nil) (fun _ => mixed) rfl fun g3 => ⟨_, _, [0, 1, 4], rfl, (.cons 1 rfl <| .cons 2 rfl <| .cons 3 rfl <| .cons 4 rfl <| .cons 5 rfl <| .cons 6 rfl <| .cons 7 rfl <| .cons 15 rfl <| .cons 16 rfl <| .cons 17 rfl <| .cons 18 rfl <| .nil), (.cons 0 rfl <| .cons 1 rfl <| .cons 4 rfl <| .nil), ?_⟩)
 refine JN_then ?_
 refine J_seq ?_
 refine J_to (To.emps 2) ?_
 refine J_to (To.split 1 3 rfl rfl rfl rfl) ?_
 refine J_to (To.split 1 4 rfl rfl rfl rfl) ?_
 refine J_seq (J_reg [[], [0], [], [2], [2, 3], [0, 1, 2, 3, 4], [0, 1, 2, 3, 4, 5], [0, 1, 2, 3, 4, 5, 6], [0, 1, 2, 3, 4, 5, 6, 7], [0, 1, 2, 3, 4, 5, 6, 7], [0, 1, 2, 3, 4, 5, 6, 7, 9], [0, 1, 2, 3, 4, 5, 6, 7, 8, 9, 10], [0, 1, 2, 3, 4, 5, 6, 7, 8, 9, 10, 11], [0, 1, 2, 3, 4, 5, 6, 7, 8, 9, 10, 11, 12], [0, 1, 2, 3, 4, 5, 6, 7, 8, 9, 10, 11, 12, 13], [0, 1, 2, 3, 4, 5, 6, 7, 8, 9, 10, 11, 12, 13, 14], [0, 1, 2, 3, 4, 5, 6, 7, 8, 9, 10, 11, 12, 13, 14, 15], [0, 1, 2, 3, 4, 5, 6, 7, 8, 9, 10, 11, 12, 13, 14, 15, 16]] (.cons (.no) _ _ (op_field_own fd29_2 (Lk.t rfl) rfl) <| .cons (.rd 2) _ _ (op_get_sc 2 sc27 (Lk.t rfl) rfl mem_blk rfl) <| .cons (.no) _ _ (op_field_own fd24_2 (Lk.t rfl) rfl) <| .cons (.rd 0) _ _ (op_get_sc 0 sc22 (Lk.t rfl) rfl mem_blk rfl) <| .cons (.no) _ _ (op_call (ql_ok hb) ⟨(Lk.t rfl),  trivial⟩) <| .cons (.rd 1) _ _ (op_callL 1 (slist_ok) (pure_isv _) ⟨.inr ⟨_, (Lk.t rfl), lent_som⟩, .inl (Lk.t rfl),  trivial⟩ rfl) <| .cons (.no) _ _ (op_not (Lk.t rfl)) <| .cons (.no) _ _ (op_move (Lk.t rfl)) <| .cons (.no) _ _ (op_guard rfl rfl (gd_b rfl) (fun hC => (op_move (Lk.t rfl)))) <| .cons (.no) _ _ (op_guard rfl rfl (gd_b rfl) (fun hC => (op_move (Lk.t rfl)))) <| .cons (.no) _ _ (op_guard rfl rfl (gd_b rfl) (fun hC => (op_call (ql_ok hu) ⟨(Lk.w rfl hC),  trivial⟩))) <| .cons (.rd 4) _ _ (op_guard rfl rfl (gd_b rfl) (fun hC => (op_callL 4 (slist_ok) (pure_isv _) ⟨.inr ⟨_, (Lk.w rfl hC), lent_som⟩, .inl (Lk.w rfl hC),  trivial⟩ rfl))) <| .cons (.no) _ _ (op_guard rfl rfl (gd_b rfl) (fun hC => (op_not (Lk.w rfl hC)))) <| .cons (.no) _ _ (op_or (Lk.t rfl) (fun h2 => (Lk.w rfl h2))) <| .cons (.no) _ _ (op_move (Lk.t rfl)) <| .cons (.no) _ _ (op_guard rfl rfl (gd_b rfl) (fun hC => (op_call (awake_ok) trivial))) <| .cons (.no) _ _ (op_guard rfl rfl (gd_b rfl) (fun hC => (op_not (Lk.w rfl hC)))) <| .cons (.no) _ _ (op_or (Lk.t rfl) (fun h2 => (Lk.w rfl h2))) <| .nil) (fun _ => mixed) rfl fun g4 => ⟨_, _, [0, 1, 2, 3, 4], rfl, (.cons 1 rfl <| .cons 2 rfl <| .cons 3 rfl <| .cons 4 rfl <| .cons 5 rfl <| .cons 6 rfl <| .cons 7 rfl <| .cons 15 rfl <| .cons 16 rfl <| .cons 17 rfl <| .cons 18 rfl <| .cons 57 rfl <| .nil), (.cons 0 rfl <| .cons 1 rfl <| .cons 2 rfl <| .cons 3 rfl <| .cons 4 rfl <| .nil), ?_⟩)
 refine JN_then ?_
 refine J_cond (cond_of (Lk.t rfl)) (fun h1 => ?_) (fun h1 => ?_)
 ·have h1' := h1
  try simp only [cmpB, Za, Zb, Zc, Zd, Ze, Zf, Zg, Zh, Zi, Zj, Zk, Zl, Zm, Zn, Zo, Zp, Zq, Zr] at h1
  exact absurd h1' (by simp)
 ·have h1' := h1
  try simp only [cmpB, Za, Zb, Zc, Zd, Ze, Zf, Zg, Zh, Zi, Zj, Zk, Zl, Zm, Zn, Zo, Zp, Zq, Zr] at h1
  refine J_skip ?_
  refine JN_then ?_
  refine J_seq ?_
  refine J_ex 3 rfl fun esp => ?_
  obtain ⟨es, hes⟩ := esp
  have hel := hes.l
  rw [List.length_map] at hel
  refine J_to (To.emps 1) ?_
  refine J_to (To.split 3 5 rfl rfl rfl rfl) ?_
  refine J_to (To.res 3 (r' := somk (g2 29) 3 mvU es 29) rfl (res_eq rfl) rfl) ?_
  refine J_to (To.res 5 (r' := pool (ms.map mcn).length (plM es (aOf (ms.map mcn)) 35)) rfl (res_eq rfl) rfl) ?_
  refine J_seq (J_reg [] (.cons (.no) _ _ (op_assign (Lk.k rfl)) <| .nil) ff rfl fun g5 => ⟨_, _, [0, 1, 2, 3, 4, 5], rfl, (.cons 1 rfl <| .cons 2 rfl <| .cons 3 rfl <| .cons 4 rfl <| .cons 5 rfl <| .cons 6 rfl <| .cons 7 rfl <| .cons 15 rfl <| .cons 16 rfl <| .cons 17 rfl <| .cons 18 rfl <| .cons 19 rfl <| .nil), (.cons 0 rfl <| .cons 1 rfl <| .cons 2 rfl <| .cons 3 rfl <| .cons 4 rfl <| .cons 5 rfl <| .nil), ?_⟩)
  refine JN_then ?_
  refine J_block ?_
  refine J_loopc (α := Nat) (fun d => d ≤ ms.length) (fun d => ms.length - d) (fun d restR => (19, isv (.int .i64 (d : Int))) :: restR) (fun d restS => restS) (ρc := [(1, _), (2, _), (3, _), (4, _), (5, _), (6, _), (7, _), (15, _), (16, _), (17, _), (18, _)]) (σc := [_, _, _, _, _, _]) 0 (by exact Nat.zero_le _) (To.pick (fun _ => .sub (t := 19) rfl (sp_eq (by rfl)) <| .cons 1 rfl <| .cons 2 rfl <| .cons 3 rfl <| .cons 4 rfl <| .cons 5 rfl <| .cons 6 rfl <| .cons 7 rfl <| .cons 15 rfl <| .cons 16 rfl <| .cons 17 rfl <| .cons 18 rfl <| .nil) (fun _ => .cons 0 rfl <| .cons 1 rfl <| .cons 2 rfl <| .cons 3 rfl <| .cons 4 rfl <| .cons 5 rfl <| .nil) (ks := [0, 1, 2, 3, 4, 5]) rfl) (fun d hI => ?_)
  refine J_seq ?_
  refine J_seq (J_reg [] (.cons (.no) _ _ (op_move (Lk.t rfl)) <| .cons (.no) _ _ (op_move (Lk.t rfl)) <| .cons (.rd 3) _ _ (op_len_somk 3 sl32 (Lk.t rfl) rfl) <| .cons (.no) _ _ (op_cmp (by simp) (Lk.t rfl) (Lk.t rfl) rfl) <| .nil) ff rfl fun g6 => ⟨_, _, [0, 1, 2, 3, 4, 5], rfl, (.cons 1 rfl <| .cons 2 rfl <| .cons 3 rfl <| .cons 4 rfl <| .cons 5 rfl <| .cons 6 rfl <| .cons 7 rfl <| .cons 15 rfl <| .cons 16 rfl <| .cons 17 rfl <| .cons 18 rfl <| .cons 19 rfl <| .cons 61 rfl <| .nil), (.cons 0 rfl <| .cons 1 rfl <| .cons 2 rfl <| .cons 3 rfl <| .cons 4 rfl <| .cons 5 rfl <| .nil), ?_⟩)
  refine JN_then ?_
  refine J_cond (cond_of (Lk.t rfl)) (fun h2 => ?_) (fun h2 => ?_)
  ·have h2' := h2
   try simp only [cmpB, Za, Zb, Zc, Zd, Ze, Zf, Zg, Zh, Zi, Zj, Zk, Zl, Zm, Zn, Zo, Zp, Zq, Zr] at h2
   refine J_skip ?_
   refine JN_then ?_
   refine J_seq ?_
   refine J_block ?_
   refine J_to (To.emps 1) ?_
   refine J_to (To.focus 5 6 d (by rw [List.length_map]; omega) rfl rfl rfl rfl) ?_
   refine J_to (To.res 6 (r' := som (es.getD d mvD).u flp (aOf (ms.map mcn) d) 35) rfl (res_eq rfl) rfl) ?_
   refine J_seq (J_reg [[], [], [0, 1], [0, 1, 2], [0, 1, 2, 3], [], [], [5, 6], [5, 6, 7], [5, 6, 7, 8], [5, 6, 7, 8, 9], [0, 1, 2, 3, 4, 5, 6, 7, 8, 9, 10], [0, 1, 2, 3, 4, 5, 6, 7, 8, 9, 10, 11]] (.cons (.no) _ _ (op_move (Lk.t rfl)) <| .cons (.no) _ _ (op_move (Lk.t rfl)) <| .cons (.rd 3) _ _ (op_index_somk 3 sl32 (Lk.t rfl) (Lk.t rfl) rfl (by omega) (by omega)) <| .cons (.no) _ _ (op_field_own fd29_2 (Lk.t rfl) rfl) <| .cons (.rd 3) _ _ (op_get_mv 3 sc27 (Lk.t rfl) rfl (by omega)) <| .cons (.no) _ _ (op_move (Lk.t rfl)) <| .cons (.no) _ _ (op_move (Lk.t rfl)) <| .cons (.no) _ _ (op_index_sk (mk := mtW) mtD sl25 mtW_len (Lk.t rfl) (Lk.t rfl) (by omega) (by omega)) <| .cons (.no) _ _ (op_field_ptr fd24_2 (Lk.t rfl) rfl) <| .cons (.no) _ _ (op_load_sc sc22 (Lk.t rfl) rfl) <| .cons (.no) _ _ (op_call (ql_ok (show GoodU (ms.getD ((d : Int)).toNat mtD).a from goodMs_at hm (by omega))) ⟨(Lk.t rfl),  trivial⟩) <| .cons (.rd 6) _ _ (op_callL 6 (slist_ok) (pure_isv _) ⟨.inr ⟨_, (Lk.t rfl), lent_som⟩, .inl (Lk.t rfl),  trivial⟩ rfl) <| .cons (.no) _ _ (op_not (Lk.t rfl)) <| .nil) (fun _ => mixed) rfl fun g7 => ⟨_, _, [0, 1, 2, 3, 4, 5, 6], rfl, (.cons 1 rfl <| .cons 2 rfl <| .cons 3 rfl <| .cons 4 rfl <| .cons 5 rfl <| .cons 6 rfl <| .cons 7 rfl <| .cons 15 rfl <| .cons 16 rfl <| .cons 17 rfl <| .cons 18 rfl <| .cons 19 rfl <| .cons 76 rfl <| .nil), (.cons 0 rfl <| .cons 1 rfl <| .cons 2 rfl <| .cons 3 rfl <| .cons 4 rfl <| .cons 5 rfl <| .cons 6 rfl <| .nil), ?_⟩)
   refine JN_then ?_
   refine J_cond (cond_of (Lk.t rfl)) (fun h3 => ?_) (fun h3 => ?_)
   ·have h3' := h3
    try simp only [cmpB, Za, Zb, Zc, Zd, Ze, Zf, Zg, Zh, Zi, Zj, Zk, Zl, Zm, Zn, Zo, Zp, Zq, Zr] at h3
    exact absurd h3' (by rw [aOf_mcn (by omega)]; simp)
   ·have h3' := h3
    try simp only [cmpB, Za, Zb, Zc, Zd, Ze, Zf, Zg, Zh, Zi, Zj, Zk, Zl, Zm, Zn, Zo, Zp, Zq, Zr] at h3
    refine J_skip ?_
    refine JN_block ?_
    refine JN_then ?_
    refine J_to (To.unfocus 5 6 d (by rw [List.length_map]; omega) rfl rfl rfl rfl) ?_
    refine J_to (To.res 5 (r' := pool (ms.map mcn).length (plM es (aOf (ms.map mcn)) 35)) rfl plM_back rfl) ?_
    refine (J_reg [] (.cons (.no) _ _ (op_move (Lk.t rfl)) <| .cons (.no) _ _ (op_add (Lk.t rfl) (Lk.k rfl) (wrap_id (by omega) (by omega))) <| .cons (.no) _ _ (op_assign (Lk.t rfl)) <| .nil) ff rfl fun g8 => ⟨_, _, [0, 1, 2, 3, 4, 5], rfl, (.cons 1 rfl <| .cons 2 rfl <| .cons 3 rfl <| .cons 4 rfl <| .cons 5 rfl <| .cons 6 rfl <| .cons 7 rfl <| .cons 15 rfl <| .cons 16 rfl <| .cons 17 rfl <| .cons 18 rfl <| .cons 19 rfl <| .nil), (.cons 0 rfl <| .cons 1 rfl <| .cons 2 rfl <| .cons 3 rfl <| .cons 4 rfl <| .cons 5 rfl <| .nil), ?_⟩)
    exact JN_again (d + 1) (by omega) (by omega) (To.pick (fun _ => .sub (t := 19) rfl (sp_eq (by rfl)) <| .cons 1 rfl <| .cons 2 rfl <| .cons 3 rfl <| .cons 4 rfl <| .cons 5 rfl <| .cons 6 rfl <| .cons 7 rfl <| .cons 15 rfl <| .cons 16 rfl <| .cons 17 rfl <| .cons 18 rfl <| .nil) (fun _ => .cons 0 rfl <| .cons 1 rfl <| .cons 2 rfl <| .cons 3 rfl <| .cons 4 rfl <| .cons 5 rfl <| .nil) (ks := [0, 1, 2, 3, 4, 5]) rfl)
  ·have h2' := h2
   try simp only [cmpB, Za, Zb, Zc, Zd, Ze, Zf, Zg, Zh, Zi, Zj, Zk, Zl, Zm, Zn, Zo, Zp, Zq, Zr] at h2
   refine J_exit ?_
   refine JN_then_exit ?_
   refine JN_then_exit ?_
   refine JN_exit_here ?_
   refine JN_then ?_
   refine J_seq (J_reg [[], [], [], [2], [1, 2, 3], [0, 1, 2, 3, 4], [0, 1, 2, 3, 4, 5]] (.cons (.no) _ _ (op_move (Lk.t rfl)) <| .cons (.rd 2) _ _ (op_get_ag 2 ag29 (Lk.t rfl) rfl mem_blk rfl rfl) <| .cons (.no) _ _ (op_move (Lk.t rfl)) <| .cons (.rd 4) _ _ (op_callL 4 qlinev_ok (pure_agg (.cons (pure_isv _) <| .cons (pure_isv _) <| .cons (pure_isv _) .nil)) ⟨.inr ⟨_, (Lk.t rfl), lent_slv⟩, trivial⟩ rfl) <| .cons (.no) _ _ (op_buildSlice sl32 zr29 rfl rfl rfl rfl (.cons rfl (Lk.t rfl) co_agg rfl (puts_l rfl (Nat.le_of_ble_eq_true rfl)) (.cons rfl (Lk.t rfl) co_agg rfl (puts_l rfl (Nat.le_of_ble_eq_true rfl)) .nil))) <| .cons (.wr 3) _ _ (op_append_kn [⟨_, _, _⟩, ⟨_, _, _⟩] 3 sl32 zr29 rfl rfl (Lk.t rfl) (Lk.t rfl) rfl (by show es.length + 2 ≤ _; omega) (by show (es.length + 2) * _ ≤ _; omega)) <| .cons (.no) _ _ (op_assign_ve rfl rfl) <| .nil) (fun _ => mixed) rfl fun g9 => ⟨_, _, [0, 1, 3, 4, 5], rfl, (.cons 1 rfl <| .cons 2 rfl <| .cons 3 rfl <| .cons 4 rfl <| .cons 5 rfl <| .cons 6 rfl <| .cons 7 rfl <| .cons 17 rfl <| .cons 18 rfl <| .nil), (.cons 0 rfl <| .cons 1 rfl <| .cons 3 rfl <| .cons 4 rfl <| .cons 5 rfl <| .nil), ?_⟩)
   refine JN_then ?_
   refine J_seq ?_
   refine J_to (To.freeze 2 (fun _ h => h) rfl frz_somk rfl) ?_
   obtain ⟨E2, hE⟩ : ∃ E2, E2 = (es ++ [(⟨r, c, (agN 2 (g2 25))⟩ : Mv), ⟨1, ((us.map cn).length : Int), (g2 27)⟩]) := ⟨_, rfl⟩
   have hE2 : E2.length = ms.length + 2 := by rw [hE, List.length_append, hel]; rfl
   refine J_to (To.slot 17 rfl (q := slk 3 mvU E2) (sb_trans (sb_fk 0 rfl) (sb_eq (by rw [hE]; rfl)))) ?_
   refine J_to (To.push 4 1 rfl rfl rfl rfl) ?_
   refine J_to (To.push 4 3 rfl rfl rfl rfl) ?_
   refine J_to (To.res 4 (r' := pool ((ms.map mcn).length + 2) (plM E2 (wrL 4635118810238550016 (xTwo (ms.map mcn) (bs.map cn) (us.map cn)) 0) 35)) rfl (fun cc ob h => plM_0 cc ob (hE ▸ plM_two (e := ⟨r, c, (agN 2 (g2 25))⟩) (f := ⟨1, ((us.map cn).length : Int), (g2 27)⟩) hes.l cc ob h)) rfl) ?_
   refine J_seq (J_reg [] (.cons (.no) _ _ (op_assign (Lk.k rfl)) <| .nil) ff rfl fun g10 => ⟨_, _, [0, 4], rfl, (.cons 1 rfl <| .cons 2 rfl <| .cons 3 rfl <| .cons 4 rfl <| .cons 5 rfl <| .cons 6 rfl <| .cons 7 rfl <| .cons 17 rfl <| .cons 18 rfl <| .cons 20 rfl <| .nil), (.cons 0 rfl <| .cons 4 rfl <| .nil), ?_⟩)
   refine JN_then ?_
   refine J_block ?_
   refine J_loopc (α := Nat) (fun w => w ≤ ms.length + 2) (fun w => ms.length + 2 - w) (fun w restR => (20, isv (.int .i64 (w : Int))) :: restR) (fun w restS => pool ((ms.map mcn).length + 2) (plM E2 (wrL 4635118810238550016 (xTwo (ms.map mcn) (bs.map cn) (us.map cn)) w) 35) :: restS) (ρc := [(1, _), (2, _), (3, _), (4, _), (5, _), (6, _), (7, _), (17, _), (18, _)]) (σc := [_]) 0 (by omega) (To.pick (fun _ => .sub (t := 20) rfl (sp_eq (by rfl)) <| .cons 1 rfl <| .cons 2 rfl <| .cons 3 rfl <| .cons 4 rfl <| .cons 5 rfl <| .cons 6 rfl <| .cons 7 rfl <| .cons 17 rfl <| .cons 18 rfl <| .nil) (fun _ => .sub 1 rfl ((fun _ _ h => h)) <| .cons 0 rfl <| .nil) (ks := [1, 0]) rfl) (fun w hI => ?_)
   refine J_seq ?_
   refine J_seq (J_reg [] (.cons (.no) _ _ (op_move (Lk.t rfl)) <| .cons (.no) _ _ (op_move (Lk.t rfl)) <| .cons (.no) _ _ (op_len_sk sl32 (Lk.t rfl)) <| .cons (.no) _ _ (op_cmp (by simp) (Lk.t rfl) (Lk.t rfl) rfl) <| .nil) ff rfl fun g11 => ⟨_, _, [0, 1], rfl, (.cons 1 rfl <| .cons 2 rfl <| .cons 3 rfl <| .cons 4 rfl <| .cons 5 rfl <| .cons 6 rfl <| .cons 7 rfl <| .cons 17 rfl <| .cons 18 rfl <| .cons 20 rfl <| .cons 86 rfl <| .nil), (.cons 0 rfl <| .cons 1 rfl <| .nil), ?_⟩)
   refine JN_then ?_
   refine J_cond (cond_of (Lk.t rfl)) (fun h4 => ?_) (fun h4 => ?_)
   ·have h4' := h4
    try simp only [cmpB, Za, Zb, Zc, Zd, Ze, Zf, Zg, Zh, Zi, Zj, Zk, Zl, Zm, Zn, Zo, Zp, Zq, Zr] at h4
    refine J_skip ?_
    refine JN_then ?_
    refine J_seq ?_
    refine J_block ?_
    refine J_to (To.emps 1) ?_
    refine J_to (To.focus 0 2 w (by rw [List.length_map]; omega) rfl rfl rfl rfl) ?_
    refine J_to (To.res 2 (r' := som (E2.getD w mvD).u flp ((xTwo (ms.map mcn) (bs.map cn) (us.map cn)) w) 35) rfl (res_eq plM_at) rfl) ?_
    refine J_seq (J_reg [] (.cons (.no) _ _ (op_assign (Lk.k rfl)) <| .nil) ff rfl fun g12 => ⟨_, _, [0, 1, 2], rfl, (.cons 1 rfl <| .cons 2 rfl <| .cons 3 rfl <| .cons 4 rfl <| .cons 5 rfl <| .cons 6 rfl <| .cons 7 rfl <| .cons 17 rfl <| .cons 18 rfl <| .cons 20 rfl <| .cons 21 rfl <| .nil), (.cons 0 rfl <| .cons 1 rfl <| .cons 2 rfl <| .nil), ?_⟩)
    refine JN_then ?_
    refine J_block ?_
    refine J_loopc (α := Nat) (fun q => q ≤ ((xTwo (ms.map mcn) (bs.map cn) (us.map cn)) w).length) (fun q => ((xTwo (ms.map mcn) (bs.map cn) (us.map cn)) w).length - q) (fun q restR => (21, isv (.int .i64 (q : Int))) :: restR) (fun q restS => som (E2.getD w mvD).u flp (putV 4635118810238550016 ((xTwo (ms.map mcn) (bs.map cn) (us.map cn)) w) q) 35 :: restS) (ρc := [(1, _), (2, _), (3, _), (4, _), (5, _), (6, _), (7, _), (17, _), (18, _), (20, _)]) (σc := [_, _]) 0 (by exact Nat.zero_le _) (To.pick (fun _ => .sub (t := 21) rfl (sp_eq (by rfl)) <| .cons 1 rfl <| .cons 2 rfl <| .cons 3 rfl <| .cons 4 rfl <| .cons 5 rfl <| .cons 6 rfl <| .cons 7 rfl <| .cons 17 rfl <| .cons 18 rfl <| .cons 20 rfl <| .nil) (fun _ => .sub 2 rfl ((res_eq rfl)) <| .cons 0 rfl <| .cons 1 rfl <| .nil) (ks := [2, 0, 1]) rfl) (fun q hJ => ?_)
    have hpl := length_putV (v := 4635118810238550016) (xs := ((xTwo (ms.map mcn) (bs.map cn) (us.map cn)) w)) hJ
    have hfl := xTwo_le (ms := ms) (a := (bs.map cn)) (b := (us.map cn)) (i := w) hm (by have := hb.2; simp; omega) (by have := hu.2; simp; omega)
    refine J_seq ?_
    refine J_seq (J_reg [] (.cons (.no) _ _ (op_move (Lk.t rfl)) <| .cons (.no) _ _ (op_move (Lk.t rfl)) <| .cons (.no) _ _ (op_move (Lk.t rfl)) <| .cons (.no) _ _ (op_index_sk (mk := mvU) mvD sl32 mvU_len (Lk.t rfl) (Lk.t rfl) (by omega) (by omega)) <| .cons (.no) _ _ (op_field_ptr fd29_2 (Lk.t rfl) rfl) <| .cons (.no) _ _ (op_load_sc sc27 (Lk.t rfl) rfl) <| .cons (.rd 0) _ _ (op_len_som 0 sl27 (Lk.t rfl) rfl) <| .cons (.no) _ _ (op_cmp (by simp) (Lk.t rfl) (Lk.t rfl) rfl) <| .nil) ff rfl fun g13 => ⟨_, _, [0, 1, 2], rfl, (.cons 1 rfl <| .cons 2 rfl <| .cons 3 rfl <| .cons 4 rfl <| .cons 5 rfl <| .cons 6 rfl <| .cons 7 rfl <| .cons 17 rfl <| .cons 18 rfl <| .cons 20 rfl <| .cons 21 rfl <| .cons 96 rfl <| .nil), (.cons 0 rfl <| .cons 1 rfl <| .cons 2 rfl <| .nil), ?_⟩)
    refine JN_then ?_
    refine J_cond (cond_of (Lk.t rfl)) (fun h5 => ?_) (fun h5 => ?_)
    ·have h5' := h5
     try simp only [cmpB, Za, Zb, Zc, Zd, Ze, Zf, Zg, Zh, Zi, Zj, Zk, Zl, Zm, Zn, Zo, Zp, Zq, Zr] at h5
     refine J_skip ?_
     refine JN_then ?_
     refine J_seq ?_
     refine J_block ?_
     refine (J_reg [] (.cons (.no) _ _ (op_move (Lk.t rfl)) <| .cons (.no) _ _ (op_move (Lk.t rfl)) <| .cons (.no) _ _ (op_index_sk (mk := mvU) mvD sl32 mvU_len (Lk.t rfl) (Lk.t rfl) (by omega) (by omega)) <| .cons (.no) _ _ (op_field_ptr fd29_2 (Lk.t rfl) rfl) <| .cons (.no) _ _ (op_load_sc sc27 (Lk.t rfl) rfl) <| .cons (.no) _ _ (op_move (Lk.t rfl)) <| .cons (.rd 0) _ _ (op_index_som 0 sl27 (Lk.t rfl) (Lk.t rfl) rfl (by omega) (by omega)) <| .cons (.wr 0) _ _ (op_store_som 0 (Lk.t rfl) (Lk.fk rfl (by decide +kernel)) co_flp sz35 rfl (by omega)) <| .nil) ff rfl fun g14 => ⟨_, _, [0, 1, 2], rfl, (.cons 1 rfl <| .cons 2 rfl <| .cons 3 rfl <| .cons 4 rfl <| .cons 5 rfl <| .cons 6 rfl <| .cons 7 rfl <| .cons 17 rfl <| .cons 18 rfl <| .cons 20 rfl <| .cons 21 rfl <| .nil), (.cons 0 rfl <| .cons 1 rfl <| .cons 2 rfl <| .nil), ?_⟩)
     refine JN_block ?_
     refine JN_then ?_
     refine (J_reg [] (.cons (.no) _ _ (op_move (Lk.t rfl)) <| .cons (.no) _ _ (op_add (Lk.t rfl) (Lk.k rfl) (wrap_id (by omega) (by omega))) <| .cons (.no) _ _ (op_assign (Lk.t rfl)) <| .nil) ff rfl fun g15 => ⟨_, _, [0, 1, 2], rfl, (.cons 1 rfl <| .cons 2 rfl <| .cons 3 rfl <| .cons 4 rfl <| .cons 5 rfl <| .cons 6 rfl <| .cons 7 rfl <| .cons 17 rfl <| .cons 18 rfl <| .cons 20 rfl <| .cons 21 rfl <| .nil), (.cons 0 rfl <| .cons 1 rfl <| .cons 2 rfl <| .nil), ?_⟩)
     exact JN_again (q + 1) (by omega) (by omega) (To.pick (fun _ => .sub (t := 21) rfl (sp_eq (by rfl)) <| .cons 1 rfl <| .cons 2 rfl <| .cons 3 rfl <| .cons 4 rfl <| .cons 5 rfl <| .cons 6 rfl <| .cons 7 rfl <| .cons 17 rfl <| .cons 18 rfl <| .cons 20 rfl <| .nil) (fun _ => .sub 0 rfl ((res_eq (by rw [← putV_set (by omega)]; rfl))) <| .cons 1 rfl <| .cons 2 rfl <| .nil) (ks := [0, 1, 2]) rfl)
    ·have h5' := h5
     try simp only [cmpB, Za, Zb, Zc, Zd, Ze, Zf, Zg, Zh, Zi, Zj, Zk, Zl, Zm, Zn, Zo, Zp, Zq, Zr] at h5
     refine J_exit ?_
     refine JN_then_exit ?_
     refine JN_then_exit ?_
     refine JN_exit_here ?_
     refine JN_block ?_
     refine JN_then ?_
     refine J_to (To.res 0 (r' := som (E2.getD w mvD).u flp (List.replicate ((xTwo (ms.map mcn) (bs.map cn) (us.map cn)) w).length 4635118810238550016) 35) rfl (res_eq (by rw [putV_all (by omega)])) rfl) ?_
     refine J_to (To.unfocus 1 0 w (by rw [List.length_map]; omega) rfl rfl rfl rfl) ?_
     refine J_to (To.res 1 (r' := pool ((ms.map mcn).length + 2) (plM E2 (wrL 4635118810238550016 (xTwo (ms.map mcn) (bs.map cn) (us.map cn)) (w + 1)) 35)) rfl plM_fill rfl) ?_
     refine (J_reg [] (.cons (.no) _ _ (op_move (Lk.t rfl)) <| .cons (.no) _ _ (op_add (Lk.t rfl) (Lk.k rfl) (wrap_id (by omega) (by omega))) <| .cons (.no) _ _ (op_assign (Lk.t rfl)) <| .nil) ff rfl fun g16 => ⟨_, _, [1, 2], rfl, (.cons 1 rfl <| .cons 2 rfl <| .cons 3 rfl <| .cons 4 rfl <| .cons 5 rfl <| .cons 6 rfl <| .cons 7 rfl <| .cons 17 rfl <| .cons 18 rfl <| .cons 20 rfl <| .nil), (.cons 1 rfl <| .cons 2 rfl <| .nil), ?_⟩)
     exact JN_again (w + 1) (by omega) (by omega) (To.pick (fun _ => .sub (t := 20) rfl (sp_eq (by rfl)) <| .cons 1 rfl <| .cons 2 rfl <| .cons 3 rfl <| .cons 4 rfl <| .cons 5 rfl <| .cons 6 rfl <| .cons 7 rfl <| .cons 17 rfl <| .cons 18 rfl <| .nil) (fun _ => .sub 0 rfl ((fun _ _ h => h)) <| .cons 1 rfl <| .nil) (ks := [0, 1]) rfl)
   ·have h4' := h4
    try simp only [cmpB, Za, Zb, Zc, Zd, Ze, Zf, Zg, Zh, Zi, Zj, Zk, Zl, Zm, Zn, Zo, Zp, Zq, Zr] at h4
    refine J_exit ?_
    refine JN_then_exit ?_
    refine JN_then_exit ?_
    refine JN_exit_here ?_
    refine JN_then ?_
    refine J_seq (J_reg [] (.cons (.rd 1) _ _ (op_get_ag 1 ag24 (Lk.t rfl) rfl mem_blk rfl rfl) <| .cons (.no) _ _ (op_call (qof_ok hb) ⟨(Lk.t rfl),  trivial⟩) <| .cons (.no) _ _ (op_move (Lk.t rfl)) <| .cons (.no) _ _ (op_call (ql_ok hu) ⟨(Lk.t rfl),  trivial⟩) <| .cons (.no) _ _ (op_move (Lk.t rfl)) <| .cons (.no) _ _ (op_call (qall_ok hm) ⟨(Lk.t rfl),  trivial⟩) <| .cons (.no) _ _ (op_move (Lk.t rfl)) <| .cons (.no) _ _ (op_move (Lk.t rfl)) <| .cons (.no) _ _ (op_move (Lk.t rfl)) <| .cons (.no) _ _ (op_call (f_ok (by assumption)) ⟨(Lk.t rfl),  trivial⟩) <| .cons (.no) _ _ (op_move (Lk.t rfl)) <| .cons (.no) _ _ (op_call (f_ok (by assumption)) ⟨(Lk.t rfl),  trivial⟩) <| .cons (.no) _ _ (op_call (ansq_ok (ltL_cn2 hb.1) (ltL_cn2 hu.1) (goodMs_lt hm) (cn_lt hx) (cn_lt hy)) ⟨(Lk.t rfl), (Lk.t rfl), (Lk.t rfl), (Lk.t rfl), (Lk.t rfl), (Lk.t rfl), (Lk.t rfl),  trivial⟩) <| .cons (.no) _ _ (op_assign (Lk.t rfl)) <| .nil) ff rfl fun g17 => ⟨_, _, [0], rfl, (.cons 18 rfl <| .cons 22 rfl <| .nil), (.cons 0 rfl <| .nil), ?_⟩)
    refine JN_then ?_
    refine J_seq ?_
    refine J_seq (J_reg [] (.cons (.no) _ _ (op_assign (Lk.k rfl)) <| .nil) ff rfl fun g18 => ⟨_, _, [0], rfl, (.cons 18 rfl <| .cons 22 rfl <| .cons 23 rfl <| .nil), (.cons 0 rfl <| .nil), ?_⟩)
    refine JN_then ?_
    refine J_block ?_
    refine J_loopc (α := Nat) (fun z => z ≤ 7) (fun z => 7 - z) (fun z restR => (23, isv (.int .i64 (z : Int))) :: restR) (fun z restS => restS) (ρc := [(18, _), (22, _)]) (σc := [_]) 0 (by omega) (To.pick (fun _ => .sub (t := 23) rfl (sp_eq (by rfl)) <| .cons 18 rfl <| .cons 22 rfl <| .nil) (fun _ => .cons 0 rfl <| .nil) (ks := [0]) rfl) (fun z hI => ?_)
    have hal : (ansQ r c (bs.map cn) (us.map cn) (ms.map mcn) i k (cn x) (cn y)).length = 7 := rfl
    refine J_seq ?_
    refine J_seq (J_reg [] (.cons (.no) _ _ (op_move (Lk.t rfl)) <| .cons (.no) _ _ (op_move (Lk.t rfl)) <| .cons (.no) _ _ (op_len_sk sl32 (Lk.t rfl)) <| .cons (.no) _ _ (op_cmp (by simp) (Lk.t rfl) (Lk.t rfl) rfl) <| .nil) ff rfl fun g19 => ⟨_, _, [0], rfl, (.cons 18 rfl <| .cons 22 rfl <| .cons 23 rfl <| .cons 122 rfl <| .nil), (.cons 0 rfl <| .nil), ?_⟩)
    refine JN_then ?_
    refine J_cond (cond_of (Lk.t rfl)) (fun h6 => ?_) (fun h6 => ?_)
    ·have h6' := h6
     try simp only [cmpB, Za, Zb, Zc, Zd, Ze, Zf, Zg, Zh, Zi, Zj, Zk, Zl, Zm, Zn, Zo, Zp, Zq, Zr] at h6
     refine J_skip ?_
     refine JN_then ?_
     refine J_seq ?_
     refine J_block ?_
     refine J_seq (J_reg [[], [], [0, 1], [0, 1, 2], [], [], [4, 5], [4, 5, 6], [0, 1, 2, 3, 4, 5, 6, 7], [0, 1, 2, 3, 4, 5, 6, 7, 8]] (.cons (.no) _ _ (op_move (Lk.t rfl)) <| .cons (.no) _ _ (op_move (Lk.t rfl)) <| .cons (.no) _ _ (op_index_sk (mk := mtM) mxD sl32 mtM_len (Lk.t rfl) (Lk.t rfl) (by omega) (by omega)) <| .cons (.no) _ _ (op_load_ag ag29 (Lk.t rfl) rfl rfl) <| .cons (.no) _ _ (op_move (Lk.t rfl)) <| .cons (.no) _ _ (op_move (Lk.t rfl)) <| .cons (.no) _ _ (op_index_sk (mk := mtM) mxD sl32 mtM_len (Lk.t rfl) (Lk.t rfl) (by omega) (by omega)) <| .cons (.no) _ _ (op_load_ag ag29 (Lk.t rfl) rfl rfl) <| .cons (.no) _ _ (op_call (qtold_ok) ⟨(Lk.t rfl), (Lk.t rfl),  trivial⟩) <| .cons (.no) _ _ (op_not (Lk.t rfl)) <| .nil) (fun _ => mixed) rfl fun g20 => ⟨_, _, [0], rfl, (.cons 18 rfl <| .cons 22 rfl <| .cons 23 rfl <| .cons 134 rfl <| .nil), (.cons 0 rfl <| .nil), ?_⟩)
     refine JN_then ?_
     refine J_cond (cond_of (Lk.t rfl)) (fun h7 => ?_) (fun h7 => ?_)
     ·have h7' := h7
      try simp only [cmpB, Za, Zb, Zc, Zd, Ze, Zf, Zg, Zh, Zi, Zj, Zk, Zl, Zm, Zn, Zo, Zp, Zq, Zr] at h7
      exact absurd h7' (by simp [cmpB])
     ·have h7' := h7
      try simp only [cmpB, Za, Zb, Zc, Zd, Ze, Zf, Zg, Zh, Zi, Zj, Zk, Zl, Zm, Zn, Zo, Zp, Zq, Zr] at h7
      refine J_skip ?_
      refine JN_block ?_
      refine JN_then ?_
      refine (J_reg [] (.cons (.no) _ _ (op_move (Lk.t rfl)) <| .cons (.no) _ _ (op_add (Lk.t rfl) (Lk.k rfl) (wrap_id (by omega) (by omega))) <| .cons (.no) _ _ (op_assign (Lk.t rfl)) <| .nil) ff rfl fun g21 => ⟨_, _, [0], rfl, (.cons 18 rfl <| .cons 22 rfl <| .cons 23 rfl <| .nil), (.cons 0 rfl <| .nil), ?_⟩)
      exact JN_again (z + 1) (by omega) (by omega) (To.pick (fun _ => .sub (t := 23) rfl (sp_eq (by rfl)) <| .cons 18 rfl <| .cons 22 rfl <| .nil) (fun _ => .cons 0 rfl <| .nil) (ks := [0]) rfl)
    ·have h6' := h6
     try simp only [cmpB, Za, Zb, Zc, Zd, Ze, Zf, Zg, Zh, Zi, Zj, Zk, Zl, Zm, Zn, Zo, Zp, Zq, Zr] at h6
     refine J_exit ?_
     refine JN_then_exit ?_
     refine JN_then_exit ?_
     refine JN_exit_here ?_
     refine JN_then ?_
     refine J_seq (J_reg [] (.cons (.no) _ _ (op_assign (Lk.k rfl)) <| .nil) ff rfl fun g22 => ⟨_, _, [0], rfl, (.cons 14 rfl <| .nil), (.cons 0 rfl <| .nil), ?_⟩)
     refine JN_then ?_
     refine J_ret ?_
     refine JN_ret (.cons (.tmp (Lk.t rfl)) <| .nil) (sb_trans (sb_res1 sb_refl) ?_)
     exact sb_refl
end Go.Proofs.Ytllkellonjhalaa
