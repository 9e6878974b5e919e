/- Printed by a program of ours (walk.py): walks of all that layer 10 answers; lists of matrices whose numbers may be written. -/
import Derived.Test.YtllkellonjhalaaFqKb
import Derived.Test.YtllkellonjhalaaProg
import Derived.KernelRfl
import Derived.Test.YtllkellonjhalaaFqTypes
import Derived.Test.YtllkellonjhalaaFqWNew2
import Derived.Test.YtllkellonjhalaaFqFrq
import Derived.Test.YtllkellonjhalaaFqRtr
set_option linter.unusedVariables false
set_option linter.unusedSimpArgs false
set_option maxRecDepth 20000
set_option maxHeartbeats 1000000
namespace Go.Proofs.Ytllkellonjhalaa
open Go Go.Bn
attribute [local irreducible] OpOK
def lineL (xs : List Nat) : Mx := ⟨1, xs.length, xs⟩
def mxR (x : MR) : Mx := ⟨x.r, x.c, x.a⟩
def ansQ (r c : Int) (xs us : List Nat) (ms : List Mt) (i k : Int) (x y : Nat) : List Mx := [lineL (houseR us).v, mxR (rotR r c xs i k x y), mxR (triM ms), mxR (triM [⟨r, c, xs⟩]), ⟨(qrM r c xs).r1, (qrM r c xs).c1, (qrM r c xs).a1⟩, ⟨(qrM r c xs).r2, (qrM r c xs).c2, (qrM r c xs).a2⟩, lineL (leastM r c xs us).a]
def GoodMs (ms : List Mt) : Prop := (∀ m, m ∈ ms → GoodU m.a) ∧ ms.length * 40 ≤ 140737488355328
theorem goodMs_at {ms : List Mt} (h : GoodMs ms) {k : Nat} (hk : k < ms.length) : GoodU (ms.getD k mtD).a := h.1 _ (mem_getD mtD hk)
theorem goodMs_lt {ms : List Mt} (h : GoodMs ms) : ∀ k, LtL ((ms.map mcn).getD k mtD).a := fun k => by
 by_cases hk : k < ms.length
 ·rw [mcn_at hk]; exact ltL_cn2 (goodMs_at h hk).1
 ·rw [List.getD, List.getElem?_eq_none (by rw [List.length_map]; omega)]; exact fun j => by show ([] : List Nat).getD j 0 < 2 ^ 64; simp
theorem qall_ok {ms : List Mt} (hb : GoodMs ms) : Ct Try.prog 6 [slk 3 mtW ms] (slk 3 mtU (ms.map mcn)) := by
 refine Ct.of Try.func6 rfl (by kernel_rfl) rfl fun c0 => ?_
 refine J_lenk 0 rfl fun hlen => ?_
 have hb2 := hb.2
 refine J_seq (J_reg [] (.cons (.no) _ _ (op_assign (Lk.k rfl)) <| .nil) ff rfl fun g1 => ⟨_, _, [], rfl, (.cons 0 rfl <| .nil), (.nil), ?_⟩)
 refine JN_then ?_
 refine J_seq (J_reg [] (.cons (.no) _ _ (op_assign (Lk.k rfl)) <| .nil) ff rfl fun g2 => ⟨_, _, [], rfl, (.cons 0 rfl <| .cons 3 rfl <| .nil), (.nil), ?_⟩)
 refine JN_then ?_
 refine J_seq ?_
 refine J_seq (J_reg [] (.cons (.no) _ _ (op_assign (Lk.k rfl)) <| .nil) ff rfl fun g3 => ⟨_, _, [], rfl, (.cons 0 rfl <| .cons 3 rfl <| .cons 4 rfl <| .nil), (.nil), ?_⟩)
 refine JN_then ?_
 refine J_block ?_
 refine J_to (To.emps 1) ?_
 refine J_loopc (α := Nat × Value) (fun x => x.1 ≤ ms.length) (fun x => ms.length - x.1) (fun x restR => (4, isv (.int .i64 (x.1 : Int))) :: (3, isv x.2) :: restR) (fun x restS => somk x.2 3 mtU ((ms.map mcn).take x.1) 29 :: restS) (ρc := [(0, _)]) (σc := []) (0, .slice none 0 0) (by exact Nat.zero_le _) (To.pick (fun _ => .sub (t := 4) rfl (sp_eq (by rfl)) <| .sub (t := 3) rfl (sp_eq (by rfl)) <| .cons 0 rfl <| .nil) (fun _ => .sub 0 rfl (somk_nil) <| .nil) (ks := [0]) rfl) (fun x hI => ?_)
 obtain ⟨k, sv⟩ := x
 try simp only at hI
 show J _ _ ((4, isv (.int .i64 (k : Int))) :: (3, isv sv) :: _) (somk sv 3 mtU ((ms.map mcn).take k) 29 :: _) _ _
 refine J_seq ?_
 refine J_seq (J_reg [] (.cons (.no) _ _ (op_move (Lk.t rfl)) <| .cons (.no) _ _ (op_move (Lk.t rfl)) <| .cons (.no) _ _ (op_len_sk sl25 (Lk.t rfl)) <| .cons (.no) _ _ (op_cmp (by simp) (Lk.t rfl) (Lk.t rfl) rfl) <| .nil) ff rfl fun g4 => ⟨_, _, [0], rfl, (.cons 0 rfl <| .cons 3 rfl <| .cons 4 rfl <| .cons 8 rfl <| .nil), (.cons 0 rfl <| .nil), ?_⟩)
 refine JN_then ?_
 refine J_cond (cond_of (Lk.t rfl)) (fun h1 => ?_) (fun h1 => ?_)
 ·have h1' := h1
  try simp only [cmpB, Za, Zb, Zc, Zd, Ze, Zf, Zg, Zh, Zi, Zj, Zk, Zl, Zm, Zn, Zo, Zp, Zq, Zr] at h1
  have hgm : GoodU (ms.getD ((k : Nat) : Int).toNat mtD).a := goodMs_at hb (by omega)
  refine J_skip ?_
  refine JN_then ?_
  refine J_seq ?_
  refine J_block ?_
  refine (J_reg [] (.cons (.no) _ _ (op_move (Lk.t rfl)) <| .cons (.no) _ _ (op_move (Lk.t rfl)) <| .cons (.no) _ _ (op_move (Lk.t rfl)) <| .cons (.no) _ _ (op_index_sk (mk := mtW) mtD sl25 mtW_len (Lk.t rfl) (Lk.t rfl) (by omega) (by omega)) <| .cons (.no) _ _ (op_load_ag ag24 (Lk.t rfl) rfl rfl) <| .cons (.no) _ _ (op_call (qof_ok hgm) ⟨(Lk.t rfl),  trivial⟩) <| .cons (.no) _ _ (op_buildSlice sl32 zr29 rfl rfl rfl rfl (.cons rfl (Lk.t rfl) co_agg rfl (puts_l rfl (Nat.le_of_ble_eq_true rfl)) .nil)) <| .cons (.wr 0) _ _ (op_append_k (mcn (ms.getD ((k : Nat) : Int).toNat mtD)) 0 sl32 zr29 rfl rfl (Lk.t rfl) (Lk.t rfl) rfl (by simp; omega) (by simp; omega)) <| .cons (.no) _ _ (op_assign_ve rfl rfl) <| .nil) ff rfl fun g5 => ⟨_, _, [0], rfl, (.cons 0 rfl <| .cons 3 rfl <| .cons 4 rfl <| .nil), (.cons 0 rfl <| .nil), ?_⟩)
  refine JN_block ?_
  refine JN_then ?_
  refine (J_reg [] (.cons (.no) _ _ (op_move (Lk.t rfl)) <| .cons (.no) _ _ (op_add (Lk.t rfl) (Lk.k rfl) (wrap_id (by omega) (by omega))) <| .cons (.no) _ _ (op_assign (Lk.t rfl)) <| .nil) ff rfl fun g6 => ⟨_, _, [0], rfl, (.cons 0 rfl <| .cons 3 rfl <| .cons 4 rfl <| .nil), (.cons 0 rfl <| .nil), ?_⟩)
  exact JN_again (k + 1, g5 18) (by exact (show k + 1 ≤ ms.length by omega)) (by show ms.length - (_ + 1) < _; omega) (To.pick (fun _ => .sub (t := 4) rfl (sp_eq (by rfl)) <| .sub (t := 3) rfl (sp_eq (by rfl)) <| .cons 0 rfl <| .nil) (fun _ => .sub 0 rfl ((res_eq (by rw [show (ms.map mcn).take (k + 1) = _ from take_mcn (by omega)]; rfl))) <| .nil) (ks := [0]) rfl)
 ·have h1' := h1
  try simp only [cmpB, Za, Zb, Zc, Zd, Ze, Zf, Zg, Zh, Zi, Zj, Zk, Zl, Zm, Zn, Zo, Zp, Zq, Zr] at h1
  refine J_exit ?_
  refine JN_then_exit ?_
  refine JN_then_exit ?_
  refine JN_exit_here ?_
  refine JN_then ?_
  refine J_seq (J_reg [] (.cons (.no) _ _ (op_move (Lk.t rfl)) <| .cons (.no) _ _ (op_assign (Lk.t rfl)) <| .nil) ff rfl fun g7 => ⟨_, _, [0], rfl, (.cons 2 rfl <| .nil), (.cons 0 rfl <| .nil), ?_⟩)
  refine JN_then ?_
  refine J_ret ?_
  refine JN_to (To.freeze 0 (fun _ h => h) rfl frz_somk rfl) ?_
  refine JN_ret (.cons (.tmp (Lk.t rfl)) <| .nil) (sb_trans (sb_res1 (sb_fk 0 rfl)) ?_)
  exact sb_eq (by rw [List.take_of_length_le (by simp; omega)])
theorem of64F_ok {bs : List Nat} (hb : ∀ b, b ∈ bs → b < 2 ^ 64) (hl : bs.length * 8 ≤ 140737488355328) : CtF Try.prog 13 [wsl bs] (id) (fun u => isv u) (fun u => som u flp (bs.map cn) 35) := by
 refine CtF.of Try.func13 rfl (by kernel_rfl) rfl fun c0 => ?_
 refine J_seq (J_reg [] (.cons (.no) _ _ (op_assign (Lk.k rfl)) <| .nil) ff rfl fun g1 => ⟨_, _, [], rfl, (.cons 0 rfl <| .nil), (.nil), ?_⟩)
 refine JN_then ?_
 refine J_seq (J_reg [] (.cons (.no) _ _ (op_assign (Lk.k rfl)) <| .nil) ff rfl fun g2 => ⟨_, _, [], rfl, (.cons 0 rfl <| .cons 3 rfl <| .nil), (.nil), ?_⟩)
 refine JN_then ?_
 refine J_seq ?_
 refine J_seq (J_reg [] (.cons (.no) _ _ (op_move (Lk.t rfl)) <| .cons (.no) _ _ (op_len_m sl22 (Lk.t rfl)) <| .cons (.no) _ _ (op_move (Lk.k rfl)) <| .nil) ff rfl fun g3 => ⟨_, _, [], rfl, (.cons 3 rfl <| .cons 6 rfl <| .cons 7 rfl <| .cons 8 rfl <| .nil), (.nil), ?_⟩)
 refine JN_then ?_
 refine J_block ?_
 refine J_to (To.emps 1) ?_
 refine J_loopc (α := Nat × Value) (fun x => x.1 ≤ bs.length) (fun x => bs.length - x.1) (fun x restR => (8, isv (.int .i64 (x.1 : Int))) :: (3, isv x.2) :: restR) (fun x restS => som x.2 flp ((bs.map cn).take x.1) 35 :: restS) (ρc := [(6, _), (7, _)]) (σc := []) (0, .slice none 0 0) (by exact Nat.zero_le _) (To.pick (fun _ => .sub (t := 8) rfl (sp_eq (by rfl)) <| .sub (t := 3) rfl (sp_eq (by rfl)) <| .cons 6 rfl <| .cons 7 rfl <| .nil) (fun _ => .sub 0 rfl (som_nil) <| .nil) (ks := [0]) rfl) (fun x hI => ?_)
 obtain ⟨k, sv⟩ := x
 try simp only at hI
 show J _ _ ((8, isv (.int .i64 (k : Int))) :: (3, isv sv) :: _) (som sv flp ((bs.map cn).take k) 35 :: _) _ _
 refine J_seq (J_reg [] (.cons (.no) _ _ (op_cmp (by simp) (Lk.t rfl) (Lk.t rfl) rfl) <| .nil) ff rfl fun g4 => ⟨_, _, [0], rfl, (.cons 3 rfl <| .cons 6 rfl <| .cons 7 rfl <| .cons 8 rfl <| .cons 9 rfl <| .nil), (.cons 0 rfl <| .nil), ?_⟩)
 refine JN_then ?_
 refine J_seq ?_
 refine J_cond (cond_of (Lk.t rfl)) (fun h1 => ?_) (fun h1 => ?_)
 ·have h1' := h1
  try simp only [cmpB, Za, Zb, Zc, Zd, Ze, Zf, Zg, Zh, Zi, Zj, Zk, Zl, Zm, Zn, Zo, Zp, Zq, Zr] at h1
  refine J_skip ?_
  refine JN_then ?_
  refine J_seq ?_
  refine J_block ?_
  refine J_seq (J_reg [] (.cons (.no) _ _ (op_index_m 0 sl22 (Lk.t rfl) (Lk.t rfl) (by omega) (by omega)) <| .cons (.no) _ _ (op_load_sc sc26 (Lk.t rfl) rfl) <| .cons (.no) _ _ (op_assign (Lk.t rfl)) <| .nil) ff rfl fun g5 => ⟨_, _, [0], rfl, (.cons 3 rfl <| .cons 5 rfl <| .cons 6 rfl <| .cons 7 rfl <| .cons 8 rfl <| .nil), (.cons 0 rfl <| .nil), ?_⟩)
  refine JN_then ?_
  refine (J_reg [] (.cons (.no) _ _ (op_move (Lk.t rfl)) <| .cons (.no) _ _ (op_move (Lk.t rfl)) <| .cons (.no) _ _ (op_f64from fromX (hb _ (mem_getD 0 (by omega))) (Lk.t rfl)) <| .cons (.no) _ _ (op_buildSlice sl27 zr35 rfl rfl rfl rfl (.cons rfl (Lk.t rfl) co_flp rfl (puts_l rfl (Nat.le_of_ble_eq_true rfl)) .nil)) <| .cons (.wr 0) _ _ (op_append_m 0 sl27 zr35 rfl (Lk.t rfl) (Lk.t rfl) rfl (by simp; omega) (by simp; omega)) <| .cons (.no) _ _ (op_assign_ve rfl rfl) <| .nil) ff rfl fun g6 => ⟨_, _, [0], rfl, (.cons 3 rfl <| .cons 6 rfl <| .cons 7 rfl <| .cons 8 rfl <| .nil), (.cons 0 rfl <| .nil), ?_⟩)
  refine JN_block ?_
  refine JN_then ?_
  refine (J_reg [] (.cons (.no) _ _ (op_add (Lk.t rfl) (Lk.k rfl) (wrap_id (by omega) (by omega))) <| .cons (.no) _ _ (op_move (Lk.t rfl)) <| .nil) ff rfl fun g7 => ⟨_, _, [0], rfl, (.cons 3 rfl <| .cons 6 rfl <| .cons 7 rfl <| .cons 8 rfl <| .nil), (.cons 0 rfl <| .nil), ?_⟩)
  exact JN_again (k + 1, g6 16) (by exact (show k + 1 ≤ bs.length by omega)) (by show bs.length - (_ + 1) < _; omega) (To.pick (fun _ => .sub (t := 8) rfl (sp_eq (by rfl)) <| .sub (t := 3) rfl (sp_eq (by rfl)) <| .cons 6 rfl <| .cons 7 rfl <| .nil) (fun _ => .sub 0 rfl ((res_eq (by have e := take_snoc (xs := bs.map cn) 0 (k := k) (by rw [List.length_map]; omega); show som _ flp _ _ = som _ flp ((bs.map cn).take (k + 1)) _; rw [e]; congr 2; simp [List.getD, List.getElem?_map, List.getElem?_eq_getElem (show k < bs.length by omega)]))) <| .nil) (ks := [0]) rfl)
 ·have h1' := h1
  try simp only [cmpB, Za, Zb, Zc, Zd, Ze, Zf, Zg, Zh, Zi, Zj, Zk, Zl, Zm, Zn, Zo, Zp, Zq, Zr] at h1
  refine J_exit ?_
  refine JN_then_exit ?_
  refine JN_then_exit ?_
  refine JN_exit_here ?_
  refine JN_then ?_
  refine J_seq (J_reg [] (.cons (.no) _ _ (op_move (Lk.t rfl)) <| .cons (.no) _ _ (op_assign (Lk.t rfl)) <| .nil) ff rfl fun g8 => ⟨_, _, [0], rfl, (.cons 2 rfl <| .nil), (.cons 0 rfl <| .nil), ?_⟩)
  refine JN_then ?_
  refine J_ret ?_
  refine JN_to (To.res 0 (r' := som sv flp (bs.map cn) 35) rfl (res_eq (by rw [List.take_of_length_le (by simp; omega)])) rfl) ?_
  refine JN_retF (u := sv) 0 rfl rfl (.tmp (Lk.t rfl)) (fun _ _ h => h.1) ?_
  exact sb_refl
theorem qlF_ok {bs : List Nat} (hb : GoodU bs) : CtF Try.prog 5 [wsl bs] (id) (fun u => isv u) (fun u => som u flp (bs.map cn) 35) := by
 refine CtF.of Try.func5 rfl (by kernel_rfl) rfl fun c0 => ?_
 refine J_seq (J_reg [] (.cons (.no) _ _ (op_assign (Lk.k rfl)) <| .nil) ff rfl fun g1 => ⟨_, _, [], rfl, (.cons 0 rfl <| .nil), (.nil), ?_⟩)
 refine JN_then ?_
 refine J_to (To.emps 1) ?_
 refine J_seq (J_reg [] (.cons (.no) _ _ (op_move (Lk.t rfl)) <| .cons (.wr 0) _ _ (op_callF 0 (of64F_ok hb.1 hb.2) ⟨(Lk.t rfl),  trivial⟩ rfl) <| .cons (.no) _ _ (op_assign_ve rfl rfl) <| .nil) ff rfl fun g2 => ⟨_, _, [0], rfl, (.cons 2 rfl <| .nil), (.cons 0 rfl <| .nil), ?_⟩)
 refine JN_then ?_
 refine J_ret ?_
 refine JN_retF (u := (g2 4)) 0 rfl rfl (.tmp (Lk.t rfl)) (fun _ _ h => h.1) ?_
 exact sb_refl
theorem qofF_ok {r c : Int} {bs : List Nat} (hb : GoodU bs) : CtF Try.prog 4 [MatU r c bs] (agN 2) (fun u => aggp [isv (.int .i64 r), isv (.int .i64 c), isv u]) (fun u => som u flp (bs.map cn) 35) := by
 refine CtF.of Try.func4 rfl (by kernel_rfl) rfl fun c0 => ?_
 refine J_to (To.emps 2) ?_
 refine J_seq (J_reg [] (.cons (.wr 0) _ _ (op_box 0 (Lk.t rfl) co_agg rfl) <| .cons (.wr 1) _ _ (op_alloc 1 zr29 rfl rfl) <| .nil) ff rfl fun g1 => ⟨_, _, [0, 1], rfl, (.cons 1 rfl <| .cons 2 rfl <| .nil), (.cons 0 rfl <| .cons 1 rfl <| .nil), ?_⟩)
 refine JN_then ?_
 refine J_to (To.emps 1) ?_
 refine J_seq (J_reg [[], [0], [], [2], [], [4], [4, 5], [0, 1, 2, 3, 4, 5, 6], [0, 1, 2, 3, 4, 5, 6, 7]] (.cons (.no) _ _ (op_field_own fd24_0 (Lk.t rfl) rfl) <| .cons (.rd 0) _ _ (op_get_sc 0 sc3 (Lk.t rfl) rfl mem_blk rfl) <| .cons (.no) _ _ (op_field_own fd24_1 (Lk.t rfl) rfl) <| .cons (.rd 0) _ _ (op_get_sc 0 sc3 (Lk.t rfl) rfl mem_blk rfl) <| .cons (.no) _ _ (op_field_own fd24_2 (Lk.t rfl) rfl) <| .cons (.rd 0) _ _ (op_get_sc 0 sc22 (Lk.t rfl) rfl mem_blk rfl) <| .cons (.wr 2) _ _ (op_callF 2 (qlF_ok hb) ⟨(Lk.t rfl),  trivial⟩ rfl) <| .cons (.no) _ _ (op_ve 9 10 rfl rfl rfl (fun f => (op_build zr29 rfl pl29 (.cons rfl (Lk.t rfl) co_isv rfl (puts_l rfl (Nat.le_of_ble_eq_true rfl)) (.cons rfl (Lk.t rfl) co_isv rfl (puts_l rfl (Nat.le_of_ble_eq_true rfl)) (.cons rfl (Lk.t rfl) co_isv rfl (puts_l rfl (Nat.le_of_ble_eq_true rfl)) .nil))))) (fun f g h => by rw [h 9 (show 9 ∈ [9] from by decide)]) rfl) <| .cons (.wr 1) _ _ (op_ver 10 rfl rfl (fun f => op_store_b 1 (Lk.t rfl) (Lk.t rfl) co_agg sz29 rfl rfl rfl) (fun f g h => by rw [h 9 (show 9 ∈ [9] from by decide)]) rfl) <| .nil) (fun _ => mixed) rfl fun g2 => ⟨_, _, [1, 2], rfl, (.cons 2 rfl <| .nil), (.cons 1 rfl <| .cons 2 rfl <| .nil), ?_⟩)
 refine JN_then ?_
 refine J_ret ?_
 refine JN_retF (u := (g2 9)) 1 rfl rfl (.ag 0 (Lk.t rfl) ag29 rfl rfl rfl) (agN_of rfl) ?_
 exact sb_refl
theorem allF_ok {ms : List Mt} (hb : GoodMs ms) : CtF Try.prog 6 [slk 3 mtW ms] (id) (fun u => isv u) (fun u => matsR u (ms.map mcn) 29 35) := by
 refine CtF.of Try.func6 rfl (by kernel_rfl) rfl fun c0 => ?_
 refine J_lenk 0 rfl fun hlen => ?_
 have hb2 := hb.2
 refine J_seq (J_reg [] (.cons (.no) _ _ (op_assign (Lk.k rfl)) <| .nil) ff rfl fun g1 => ⟨_, _, [], rfl, (.cons 0 rfl <| .nil), (.nil), ?_⟩)
 refine JN_then ?_
 refine J_seq (J_reg [] (.cons (.no) _ _ (op_assign (Lk.k rfl)) <| .nil) ff rfl fun g2 => ⟨_, _, [], rfl, (.cons 0 rfl <| .cons 3 rfl <| .nil), (.nil), ?_⟩)
 refine JN_then ?_
 refine J_seq ?_
 refine J_to (To.emps 2) ?_
 refine J_to (To.res 0 (r' := somk (.slice none 0 0) 3 mvU [] 29) rfl somk_nil rfl) ?_
 refine J_to (To.res 1 (r' := pool 0 (fun _ => Go.Bn.emp)) rfl pool_nil rfl) ?_
 refine J_seq (J_reg [] (.cons (.no) _ _ (op_assign (Lk.k rfl)) <| .nil) ff rfl fun g3 => ⟨_, _, [0, 1], rfl, (.cons 0 rfl <| .cons 3 rfl <| .cons 4 rfl <| .nil), (.cons 0 rfl <| .cons 1 rfl <| .nil), ?_⟩)
 refine JN_then ?_
 refine J_block ?_
 refine J_loopc (α := Nat × Value × List Mv) (fun x => x.1 ≤ ms.length ∧ RC x.2.2 ((ms.map mcn).take x.1)) (fun x => ms.length - x.1) (fun x restR => (4, isv (.int .i64 (x.1 : Int))) :: (3, isv x.2.1) :: restR) (fun x restS => somk x.2.1 3 mvU x.2.2 29 :: pool x.1 (plM x.2.2 (aOf (ms.map mcn)) 35) :: restS) (ρc := [(0, _)]) (σc := []) (0, .slice none 0 0, []) (by exact ⟨Nat.zero_le _, rc_nil⟩) (To.pick (fun _ => .sub (t := 4) rfl (sp_eq (by rfl)) <| .sub (t := 3) rfl (sp_eq (by rfl)) <| .cons 0 rfl <| .nil) (fun _ => .sub 0 rfl ((fun _ _ h => h)) <| .sub 1 rfl ((pool_congr fun j hj => absurd hj (Nat.not_lt_zero j))) <| .nil) (ks := [0, 1]) rfl) (fun x hI => ?_)
 obtain ⟨k, sv, es⟩ := x
 try simp only at hI
 show J _ _ ((4, isv (.int .i64 (k : Int))) :: (3, isv sv) :: _) (somk sv 3 mvU es 29 :: pool k (plM es (aOf (ms.map mcn)) 35) :: _) _ _
 have hel := hI.2.l
 rw [List.length_take, List.length_map, Nat.min_eq_left (by omega)] at hel
 refine J_seq ?_
 refine J_seq (J_reg [] (.cons (.no) _ _ (op_move (Lk.t rfl)) <| .cons (.no) _ _ (op_move (Lk.t rfl)) <| .cons (.no) _ _ (op_len_sk sl25 (Lk.t rfl)) <| .cons (.no) _ _ (op_cmp (by simp) (Lk.t rfl) (Lk.t rfl) rfl) <| .nil) ff rfl fun g4 => ⟨_, _, [0, 1], rfl, (.cons 0 rfl <| .cons 3 rfl <| .cons 4 rfl <| .cons 8 rfl <| .nil), (.cons 0 rfl <| .cons 1 rfl <| .nil), ?_⟩)
 refine JN_then ?_
 refine J_cond (cond_of (Lk.t rfl)) (fun h1 => ?_) (fun h1 => ?_)
 ·have h1' := h1
  try simp only [cmpB, Za, Zb, Zc, Zd, Ze, Zf, Zg, Zh, Zi, Zj, Zk, Zl, Zm, Zn, Zo, Zp, Zq, Zr] at h1
  have hgm : GoodU (ms.getD ((k : Nat) : Int).toNat mtD).a := goodMs_at hb (by omega)
  refine J_skip ?_
  refine JN_then ?_
  refine J_seq ?_
  refine J_block ?_
  refine J_to (To.emps 1) ?_
  refine (J_JO ?_)
  refine JO_split 6 rfl ?_
  refine (JO_reg (.cons (.no) _ _ (op_move (Lk.t rfl)) <| .cons (.no) _ _ (op_move (Lk.t rfl)) <| .cons (.no) _ _ (op_move (Lk.t rfl)) <| .cons (.no) _ _ (op_index_sk (mk := mtW) mtD sl25 mtW_len (Lk.t rfl) (Lk.t rfl) (by omega) (by omega)) <| .cons (.no) _ _ (op_load_ag ag24 (Lk.t rfl) rfl rfl) <| .cons (.wr 2) _ _ (op_callF 2 (qofF_ok hgm) ⟨(Lk.t rfl),  trivial⟩ rfl) <| .nil) rfl fun g5 => ⟨_, _, [0, 1, 2], rfl, (.cons 0 rfl <| .cons 4 rfl <| .cons 11 rfl <| .cons 16 rfl <| .nil), (.cons 0 rfl <| .cons 1 rfl <| .cons 2 rfl <| .nil), ?_⟩)
  refine JN_seg ?_
  refine (JO_reg (.cons (.no) _ _ (op_buildSlice sl32 zr29 rfl rfl rfl rfl (.cons rfl (Lk.t rfl) co_agg rfl (puts_l rfl (Nat.le_of_ble_eq_true rfl)) .nil)) <| .cons (.wr 0) _ _ (op_append_k ⟨_, _, _⟩ 0 sl32 zr29 rfl rfl (Lk.t rfl) (Lk.t rfl) rfl (by omega) (by omega)) <| .cons (.no) _ _ (op_assign_ve rfl rfl) <| .nil) rfl fun g6 => ⟨_, _, [0, 1, 2], rfl, (.cons 0 rfl <| .cons 3 rfl <| .cons 4 rfl <| .nil), (.cons 0 rfl <| .cons 1 rfl <| .cons 2 rfl <| .nil), ?_⟩)
  refine JN_block ?_
  refine JN_then ?_
  refine J_to (To.res 2 (r' := som (agN 2 (g5 16)) flp (aOf (ms.map mcn) k) 35) rfl (res_eq (by rw [aOf_mcn (by omega)]; rfl)) rfl) ?_
  refine J_to (To.push 1 2 rfl rfl rfl rfl) ?_
  refine (J_reg [] (.cons (.no) _ _ (op_move (Lk.t rfl)) <| .cons (.no) _ _ (op_add (Lk.t rfl) (Lk.k rfl) (wrap_id (by omega) (by omega))) <| .cons (.no) _ _ (op_assign (Lk.t rfl)) <| .nil) ff rfl fun g7 => ⟨_, _, [0, 1], rfl, (.cons 0 rfl <| .cons 3 rfl <| .cons 4 rfl <| .nil), (.cons 0 rfl <| .cons 1 rfl <| .nil), ?_⟩)
  exact JN_again (k + 1, (g6 18), es ++ [⟨_, _, (agN 2 (g5 16))⟩]) (by exact ⟨show k + 1 ≤ ms.length by omega, rc_snoc (by rw [List.length_map]; omega) hI.2 (by rw [mcn_at (by omega)]; rfl) (by rw [mcn_at (by omega)]; rfl)⟩) (by show ms.length - (_ + 1) < _; omega) (To.pick (fun _ => .sub (t := 4) rfl (sp_eq (by rfl)) <| .sub (t := 3) rfl (sp_eq (by rfl)) <| .cons 0 rfl <| .nil) (fun _ => .sub 0 rfl ((fun _ _ h => h)) <| .sub 1 rfl ((plM_push (e := ⟨_, _, _⟩) hel)) <| .nil) (ks := [0, 1]) rfl)
 ·have h1' := h1
  try simp only [cmpB, Za, Zb, Zc, Zd, Ze, Zf, Zg, Zh, Zi, Zj, Zk, Zl, Zm, Zn, Zo, Zp, Zq, Zr] at h1
  refine J_exit ?_
  refine JN_then_exit ?_
  refine JN_then_exit ?_
  refine JN_exit_here ?_
  refine JN_then ?_
  refine J_seq (J_reg [] (.cons (.no) _ _ (op_move (Lk.t rfl)) <| .cons (.no) _ _ (op_assign (Lk.t rfl)) <| .nil) ff rfl fun g8 => ⟨_, _, [0, 1], rfl, (.cons 2 rfl <| .nil), (.cons 0 rfl <| .cons 1 rfl <| .nil), ?_⟩)
  refine JN_then ?_
  refine J_ret ?_
  obtain rfl : k = ms.length := by omega
  have hrc : RC es (ms.map mcn) := by have q := hI.2; rw [List.take_of_length_le (by rw [List.length_map]; exact Nat.le_refl _)] at q; exact q
  refine JN_to (To.join 0 1 rfl rfl rfl rfl) ?_
  refine JN_to (To.res 0 (r' := matsR sv (ms.map mcn) 29 35) rfl (fun c ob h => ⟨⟨es, hrc⟩, mats_len h⟩) rfl) ?_
  refine JN_retF (u := sv) 0 rfl rfl (.tmp (Lk.t rfl)) (fun _ _ h => h.1) ?_
  exact sb_refl
theorem qline_ok {xs : List Nat} : Ct Try.prog 11 [fls xs] (MatP 1 (xs.length : Int) xs) := by
 refine Ct.of Try.func11 rfl (by kernel_rfl) rfl fun c0 => ?_
 refine J_to (To.emps 1) ?_
 refine J_seq (J_reg [] (.cons (.wr 0) _ _ (op_alloc 0 zr29 rfl rfl) <| .nil) ff rfl fun g1 => ⟨_, _, [0], rfl, (.cons 0 rfl <| .cons 2 rfl <| .nil), (.cons 0 rfl <| .nil), ?_⟩)
 refine JN_then ?_
 refine J_seq (J_reg [] (.cons (.no) _ _ (op_move (Lk.t rfl)) <| .cons (.no) _ _ (op_len_m sl27 (Lk.t rfl)) <| .cons (.no) _ _ (op_move (Lk.t rfl)) <| .cons (.no) _ _ (op_build zr29 rfl pl29 (.cons rfl (Lk.k rfl) co_isv rfl (puts_l rfl (Nat.le_of_ble_eq_true rfl)) (.cons rfl (Lk.t rfl) co_isv rfl (puts_l rfl (Nat.le_of_ble_eq_true rfl)) (.cons rfl (Lk.t rfl) co_slm rfl (puts_l rfl (Nat.le_of_ble_eq_true rfl)) .nil)))) <| .cons (.wr 0) _ _ (op_store_b 0 (Lk.t rfl) (Lk.t rfl) co_agg sz29 rfl rfl rfl) <| .nil) ff rfl fun g2 => ⟨_, _, [0], rfl, (.cons 2 rfl <| .nil), (.cons 0 rfl <| .nil), ?_⟩)
 refine JN_then ?_
 refine J_ret ?_
 refine JN_ret (.cons (.ag 0 (Lk.t rfl) ag29 rfl rfl rfl) <| .nil) (sb_trans (sb_res1 sb_refl) ?_)
 exact sb_refl
theorem triN_ok1 {r c : Int} {xs : List Nat} (hx : LtL xs) : CtN Try.prog 16 [slc 1 3 [isv (.int .i64 r), isv (.int .i64 c), fls xs]] (resM (triM [⟨r, c, xs⟩])) := triN_ok (ms := [⟨r, c, xs⟩]) (fun k => by match k with | 0 => exact hx | (k + 1) => (intro j; show 0 < 2 ^ 64; decide))
theorem ansqN_ok {r c i k : Int} {xs us : List Nat} {ms : List Mt} {x y : Nat} (hx : LtL xs) (hu : LtL us) (hm : ∀ j, LtL (ms.getD j mtD).a) (hxx : x < 2 ^ 64) (hyy : y < 2 ^ 64) : CtN Try.prog 7 [MatP r c xs, fls us, slk 3 mtU ms, isv (.int .i64 i), isv (.int .i64 k), flp x, flp y] (slk 3 mtM (ansQ r c xs us ms i k x y)) := by
 refine CtN.of Try.func7 rfl (by kernel_rfl) rfl fun c0 => ?_
 refine J_to To.size ?_
 refine J_to (To.emps 1) ?_
 refine J_seq (J_reg [] (.cons (.wr 0) _ _ (op_box 0 (Lk.t rfl) co_agg rfl) <| .cons (.no) _ _ (op_assign (Lk.k rfl)) <| .nil) ff rfl fun g1 => ⟨_, _, [0], rfl, (.cons 1 rfl <| .cons 2 rfl <| .cons 3 rfl <| .cons 4 rfl <| .cons 5 rfl <| .cons 6 rfl <| .cons 7 rfl <| .nil), (.cons 0 rfl <| .nil), ?_⟩)
 refine JN_then ?_
 refine J_seq (J_reg [] (.cons (.no) _ _ (op_move (Lk.t rfl)) <| .cons (.no) _ _ (op_callN 0 rfl (HouseN_ok (lt_allQ hu)) pull_H ⟨(Lk.t rfl),  trivial⟩) <| .cons (.no) _ _ (op_move (Lk.t rfl)) <| .cons (.no) _ _ (op_extract (Lk.t rfl) rfl) <| .cons (.no) _ _ (op_extract (Lk.t rfl) rfl) <| .cons (.no) _ _ (op_extract (Lk.t rfl) rfl) <| .cons (.no) _ _ (op_extract (Lk.t rfl) rfl) <| .cons (.no) _ _ (op_assign (Lk.t rfl)) <| .cons (.no) _ _ (op_assign (Lk.t rfl)) <| .cons (.no) _ _ (op_assign (Lk.t rfl)) <| .cons (.no) _ _ (op_assign (Lk.t rfl)) <| .nil) ff rfl fun g2 => ⟨_, _, [0], rfl, (.cons 1 rfl <| .cons 2 rfl <| .cons 3 rfl <| .cons 4 rfl <| .cons 5 rfl <| .cons 6 rfl <| .cons 7 rfl <| .cons 15 rfl <| .nil), (.cons 0 rfl <| .nil), ?_⟩)
 refine JN_then ?_
 refine J_to (To.emps 1) ?_
 refine J_seq (J_reg [] (.cons (.rd 0) _ _ (op_get_ag 0 ag29 (Lk.t rfl) rfl mem_blk rfl rfl) <| .cons (.no) _ _ (op_move (Lk.t rfl)) <| .cons (.no) _ _ (op_move (Lk.t rfl)) <| .cons (.no) _ _ (op_move (Lk.t rfl)) <| .cons (.no) _ _ (op_move (Lk.t rfl)) <| .cons (.no) _ _ (op_callN 0 rfl (rotateN_ok hxx hyy) pull_M ⟨(Lk.t rfl), (Lk.t rfl), (Lk.t rfl), (Lk.t rfl), (Lk.t rfl),  trivial⟩) <| .cons (.no) _ _ (op_move (Lk.t rfl)) <| .cons (.no) _ _ (op_extract (Lk.t rfl) rfl) <| .cons (.no) _ _ (op_extract (Lk.t rfl) rfl) <| .cons (.wr 1) _ _ (op_alloc 1 zr29 rfl rfl) <| .cons (.wr 1) _ _ (op_store_new 1 rfl (Lk.t rfl) co_agg sz29 rfl rfl) <| .cons (.no) _ _ (op_assign (Lk.t rfl)) <| .nil) ff rfl fun g3 => ⟨_, _, [0, 1], rfl, (.cons 1 rfl <| .cons 2 rfl <| .cons 7 rfl <| .cons 15 rfl <| .cons 19 rfl <| .nil), (.cons 0 rfl <| .cons 1 rfl <| .nil), ?_⟩)
 refine JN_then ?_
 refine J_to (To.emps 1) ?_
 refine J_seq (J_reg [] (.cons (.no) _ _ (op_move (Lk.t rfl)) <| .cons (.no) _ _ (op_callN 0 rfl (triN_ok hm) pull_M ⟨(Lk.t rfl),  trivial⟩) <| .cons (.no) _ _ (op_move (Lk.t rfl)) <| .cons (.no) _ _ (op_extract (Lk.t rfl) rfl) <| .cons (.no) _ _ (op_extract (Lk.t rfl) rfl) <| .cons (.wr 2) _ _ (op_alloc 2 zr29 rfl rfl) <| .cons (.wr 2) _ _ (op_store_new 2 rfl (Lk.t rfl) co_agg sz29 rfl rfl) <| .cons (.no) _ _ (op_assign (Lk.t rfl)) <| .nil) ff rfl fun g4 => ⟨_, _, [0, 1, 2], rfl, (.cons 1 rfl <| .cons 7 rfl <| .cons 15 rfl <| .cons 19 rfl <| .cons 21 rfl <| .nil), (.cons 0 rfl <| .cons 1 rfl <| .cons 2 rfl <| .nil), ?_⟩)
 refine JN_then ?_
 refine J_to (To.emps 1) ?_
 refine J_seq (J_reg [] (.cons (.rd 0) _ _ (op_get_ag 0 ag29 (Lk.t rfl) rfl mem_blk rfl rfl) <| .cons (.no) _ _ (op_buildSlice sl32 zr29 rfl rfl rfl rfl (.cons rfl (Lk.t rfl) co_agg rfl (puts_l rfl (Nat.le_of_ble_eq_true rfl)) .nil)) <| .cons (.no) _ _ (op_callN 0 rfl (triN_ok1 hx) pull_M ⟨(Lk.t rfl),  trivial⟩) <| .cons (.no) _ _ (op_move (Lk.t rfl)) <| .cons (.no) _ _ (op_extract (Lk.t rfl) rfl) <| .cons (.no) _ _ (op_extract (Lk.t rfl) rfl) <| .cons (.wr 3) _ _ (op_alloc 3 zr29 rfl rfl) <| .cons (.wr 3) _ _ (op_store_new 3 rfl (Lk.t rfl) co_agg sz29 rfl rfl) <| .cons (.no) _ _ (op_assign (Lk.t rfl)) <| .nil) ff rfl fun g5 => ⟨_, _, [0, 1, 2, 3], rfl, (.cons 1 rfl <| .cons 7 rfl <| .cons 15 rfl <| .cons 19 rfl <| .cons 21 rfl <| .cons 23 rfl <| .nil), (.cons 0 rfl <| .cons 1 rfl <| .cons 2 rfl <| .cons 3 rfl <| .nil), ?_⟩)
 refine JN_then ?_
 refine J_to (To.emps 2) ?_
 refine J_seq (J_reg [] (.cons (.rd 0) _ _ (op_get_ag 0 ag29 (Lk.t rfl) rfl mem_blk rfl rfl) <| .cons (.no) _ _ (op_callN 0 rfl (qrN_ok hx) pull_Q ⟨(Lk.t rfl),  trivial⟩) <| .cons (.no) _ _ (op_move (Lk.t rfl)) <| .cons (.no) _ _ (op_extract (Lk.t rfl) rfl) <| .cons (.no) _ _ (op_extract (Lk.t rfl) rfl) <| .cons (.no) _ _ (op_extract (Lk.t rfl) rfl) <| .cons (.wr 4) _ _ (op_alloc 4 zr29 rfl rfl) <| .cons (.wr 5) _ _ (op_alloc 5 zr29 rfl rfl) <| .cons (.wr 4) _ _ (op_store_new 4 rfl (Lk.t rfl) co_agg sz29 rfl rfl) <| .cons (.wr 5) _ _ (op_store_new 5 rfl (Lk.t rfl) co_agg sz29 rfl rfl) <| .cons (.no) _ _ (op_assign (Lk.t rfl)) <| .nil) ff rfl fun g6 => ⟨_, _, [0, 1, 2, 3, 4, 5], rfl, (.cons 1 rfl <| .cons 7 rfl <| .cons 15 rfl <| .cons 19 rfl <| .cons 21 rfl <| .cons 23 rfl <| .cons 25 rfl <| .cons 26 rfl <| .nil), (.cons 0 rfl <| .cons 1 rfl <| .cons 2 rfl <| .cons 3 rfl <| .cons 4 rfl <| .cons 5 rfl <| .nil), ?_⟩)
 refine JN_then ?_
 refine J_seq (J_reg [] (.cons (.rd 0) _ _ (op_get_ag 0 ag29 (Lk.t rfl) rfl mem_blk rfl rfl) <| .cons (.no) _ _ (op_move (Lk.t rfl)) <| .cons (.no) _ _ (op_callN 0 rfl (leastN_ok hx) pull_V ⟨(Lk.t rfl), (Lk.t rfl),  trivial⟩) <| .cons (.no) _ _ (op_move (Lk.t rfl)) <| .cons (.no) _ _ (op_extract (Lk.t rfl) rfl) <| .cons (.no) _ _ (op_extract (Lk.t rfl) rfl) <| .cons (.no) _ _ (op_assign (Lk.t rfl)) <| .cons (.no) _ _ (op_assign (Lk.t rfl)) <| .nil) ff rfl fun g7 => ⟨_, _, [1, 2, 3, 4, 5], rfl, (.cons 15 rfl <| .cons 19 rfl <| .cons 21 rfl <| .cons 23 rfl <| .cons 25 rfl <| .cons 26 rfl <| .cons 28 rfl <| .nil), (.cons 1 rfl <| .cons 2 rfl <| .cons 3 rfl <| .cons 4 rfl <| .cons 5 rfl <| .nil), ?_⟩)
 refine JN_then ?_
 refine J_to (To.emps 1) ?_
 refine J_seq (J_reg [[], [0], [], [], [], [], [], [], [0, 1, 7], [0, 1, 2, 3, 4, 5, 6, 7, 8], [0, 1, 2, 3, 4, 5, 6, 7, 8, 9]] (.cons (.no) _ _ (op_move (Lk.t rfl)) <| .cons (.no) _ _ (op_callT 0 rfl (qline_ok) pull_mat ⟨(Lk.sub sb_refl (Lk.t rfl)),  trivial⟩) <| .cons (.rd 0) _ _ (op_get_ag 0 ag29 (Lk.t rfl) rfl mem_blk rfl rfl) <| .cons (.rd 1) _ _ (op_get_ag 1 ag29 (Lk.t rfl) rfl mem_blk rfl rfl) <| .cons (.rd 2) _ _ (op_get_ag 2 ag29 (Lk.t rfl) rfl mem_blk rfl rfl) <| .cons (.rd 3) _ _ (op_get_ag 3 ag29 (Lk.t rfl) rfl mem_blk rfl rfl) <| .cons (.rd 4) _ _ (op_get_ag 4 ag29 (Lk.t rfl) rfl mem_blk rfl rfl) <| .cons (.no) _ _ (op_move (Lk.t rfl)) <| .cons (.no) _ _ (op_callT 0 rfl (qline_ok) pull_mat ⟨(Lk.sub sb_refl (Lk.t rfl)),  trivial⟩) <| .cons (.wr 5) _ _ (op_buildSliceO 5 sl32 zr29 rfl rfl rfl rfl rfl (.cons rfl (Lk.t rfl) co_agg rfl (puts_l rfl (Nat.le_of_ble_eq_true rfl)) (.cons rfl (Lk.t rfl) co_agg rfl (puts_l rfl (Nat.le_of_ble_eq_true rfl)) (.cons rfl (Lk.t rfl) co_agg rfl (puts_l rfl (Nat.le_of_ble_eq_true rfl)) (.cons rfl (Lk.t rfl) co_agg rfl (puts_l rfl (Nat.le_of_ble_eq_true rfl)) (.cons rfl (Lk.t rfl) co_agg rfl (puts_l rfl (Nat.le_of_ble_eq_true rfl)) (.cons rfl (Lk.t rfl) co_agg rfl (puts_l rfl (Nat.le_of_ble_eq_true rfl)) (.cons rfl (Lk.t rfl) co_agg rfl (puts_l rfl (Nat.le_of_ble_eq_true rfl)) .nil)))))))) <| .cons (.no) _ _ (op_assign_ve rfl rfl) <| .nil) (fun _ => mixed) rfl fun g8 => ⟨_, _, [5], rfl, (.cons 14 rfl <| .nil), (.cons 5 rfl <| .nil), ?_⟩)
 refine JN_then ?_
 refine J_ret ?_
 refine JN_to (To.res 0 (r' := somk (g8 78) 3 (mtN c0.w.heap.size) (ansQ r c xs us ms i k x y) 29) rfl (res_eq rfl) rfl) ?_
 refine JN_to (To.freezeN 0 (fun _ h => h) rfl frz_somk npure_mts rfl) ?_
 refine JN_ret (.cons (.tmp (Lk.t rfl)) <| .nil) (sb_trans (sb_res1 (sb_fk 0 rfl)) (sb_trans (sb_newp sb_mts) (sb_newp ?_)))
 exact sb_refl
end Go.Proofs.Ytllkellonjhalaa
