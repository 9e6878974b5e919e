/- Printed by a program of ours (walk.py): walk of all that the model answers; its numbers may be written. -/
import Derived.Test.YtjfkpnacfnnkhaaDoorKb
import Derived.Test.YtjfkpnacfnnkhaaDoorProg
import Derived.KernelRfl
import Derived.Test.YtjfkpnacfnnkhaaDoorTypes
import Derived.Test.YtjfkpnacfnnkhaaDoorWNew7
import Derived.Test.YtjfkpnacfnnkhaaDoorFrm
set_option linter.unusedVariables false
set_option linter.unusedSimpArgs false
set_option maxRecDepth 20000
set_option maxHeartbeats 1000000
namespace Go.Proofs.YtjfkpnacfnnkhaaDoor
open Go Go.Bn
attribute [local irreducible] OpOK
def mxR (x : MR) : Mx := ⟨x.r, x.c, x.a⟩
def lineE (xs : List Nat) : Mx := ⟨1, xs.length, xs⟩
def ansE (ps : List Prt) (t i r c : Int) (hs rs : List Nat) (q : Nat) (xs : List Nat) (es : List Int) : List Mx := [mxR (blkM moveB ps t), mxR (blkM noiseB ps t), mxR (blkM rootB ps t), mxR (pickM ps es), lineE (seesR i r c hs rs q xs).a]
theorem ansF_ok {ps : List Prt} {t i r c : Int} {hs rs : List Nat} {q : Nat} {xs : List Nat} {es : List Int} : CtF Tryd.prog 7 [MotP ps, isv (.int .i64 t), SenP i r c hs rs q, fls xs, ils .i64 es] (id) (fun u => isv u) (fun u => matsE u (ansE ps t i r c hs rs q xs es) 34 37) := by
  refine CtF.of Tryd.func7 rfl (by kernel_rfl) rfl fun c0 => ?_
  refine J_to (To.emps 2) ?_
  refine J_seq (J_reg [] (
      .cons (.wr 0) _ _ (op_box 0 (Lk.t rfl) co_agg rfl) <|
      .cons (.wr 1) _ _ (op_box 1 (Lk.t rfl) co_agg rfl) <|
      .cons (.no) _ _ (op_assign (Lk.k rfl)) <|
      .nil) ff rfl fun g1 => ⟨_, _, [0, 1], rfl, (.cons 1 rfl <| .cons 3 rfl <| .cons 4 rfl <| .cons 5 rfl <| .cons 7 rfl <| .nil), (.cons 0 rfl <| .cons 1 rfl <| .nil), ?_⟩)
  refine JN_then ?_
  refine J_to (To.emps 2) ?_
  refine J_seq (J_reg [] (
      .cons (.rd 0) _ _ (op_get_ag 0 ag30 (Lk.t rfl) rfl mem_blk rfl rfl) <|
      .cons (.no) _ _ (op_move (Lk.t rfl)) <|
      .cons (.wr 2) _ _ (op_callF 2 (mFF_ok) ⟨(Lk.t rfl), (Lk.t rfl),  trivial⟩ rfl) <|
      .cons (.no) _ _ (op_move_ve rfl rfl) <|
      .cons (.no) _ _ (op_ve 21 25 rfl rfl rfl (fun f => op_extract (Lk.t rfl) rfl) (fun f g h => by first | rfl | rw [h 24 (show 24 ∈ [24] from by decide)]) rfl) <|
      .cons (.no) _ _ (op_ve 21 26 rfl rfl rfl (fun f => op_extract (Lk.t rfl) rfl) (fun f g h => by first | rfl | rw [h 24 (show 24 ∈ [24] from by decide)]) rfl) <|
      .cons (.wr 3) _ _ (op_alloc 3 zr34 rfl rfl) <|
      .cons (.wr 3) _ _ (op_store_new_ve 3 rfl rfl rfl (fun f => co_agg) (fun f g h => by rw [h 24 (show 24 ∈ [24] from by decide)]) (fun _ => sz34) rfl (fun _ => rfl) rfl) <|
      .cons (.no) _ _ (op_assign_ve rfl rfl) <|
      .nil) ff rfl fun g2 => ⟨_, _, [0, 1, 2, 3], rfl, (.cons 1 rfl <| .cons 3 rfl <| .cons 4 rfl <| .cons 5 rfl <| .cons 7 rfl <| .cons 11 rfl <| .nil), (.cons 0 rfl <| .cons 1 rfl <| .cons 2 rfl <| .cons 3 rfl <| .nil), ?_⟩)
  refine JN_then ?_
  refine J_to (To.emps 2) ?_
  refine J_seq (J_reg [] (
      .cons (.rd 0) _ _ (op_get_ag 0 ag30 (Lk.t rfl) rfl mem_blk rfl rfl) <|
      .cons (.no) _ _ (op_move (Lk.t rfl)) <|
      .cons (.wr 4) _ _ (op_callF 4 (mQF_ok) ⟨(Lk.t rfl), (Lk.t rfl),  trivial⟩ rfl) <|
      .cons (.no) _ _ (op_move_ve rfl rfl) <|
      .cons (.no) _ _ (op_ve 27 31 rfl rfl rfl (fun f => op_extract (Lk.t rfl) rfl) (fun f g h => by first | rfl | rw [h 30 (show 30 ∈ [30] from by decide)]) rfl) <|
      .cons (.no) _ _ (op_ve 27 32 rfl rfl rfl (fun f => op_extract (Lk.t rfl) rfl) (fun f g h => by first | rfl | rw [h 30 (show 30 ∈ [30] from by decide)]) rfl) <|
      .cons (.wr 5) _ _ (op_alloc 5 zr34 rfl rfl) <|
      .cons (.wr 5) _ _ (op_store_new_ve 5 rfl rfl rfl (fun f => co_agg) (fun f g h => by rw [h 30 (show 30 ∈ [30] from by decide)]) (fun _ => sz34) rfl (fun _ => rfl) rfl) <|
      .cons (.no) _ _ (op_assign_ve rfl rfl) <|
      .nil) ff rfl fun g3 => ⟨_, _, [0, 1, 2, 3, 4, 5], rfl, (.cons 1 rfl <| .cons 3 rfl <| .cons 4 rfl <| .cons 5 rfl <| .cons 7 rfl <| .cons 11 rfl <| .cons 13 rfl <| .nil), (.cons 0 rfl <| .cons 1 rfl <| .cons 2 rfl <| .cons 3 rfl <| .cons 4 rfl <| .cons 5 rfl <| .nil), ?_⟩)
  refine JN_then ?_
  refine J_to (To.emps 2) ?_
  refine J_seq (J_reg [] (
      .cons (.rd 0) _ _ (op_get_ag 0 ag30 (Lk.t rfl) rfl mem_blk rfl rfl) <|
      .cons (.no) _ _ (op_move (Lk.t rfl)) <|
      .cons (.wr 6) _ _ (op_callF 6 (mGF_ok) ⟨(Lk.t rfl), (Lk.t rfl),  trivial⟩ rfl) <|
      .cons (.no) _ _ (op_move_ve rfl rfl) <|
      .cons (.no) _ _ (op_ve 33 37 rfl rfl rfl (fun f => op_extract (Lk.t rfl) rfl) (fun f g h => by first | rfl | rw [h 36 (show 36 ∈ [36] from by decide)]) rfl) <|
      .cons (.no) _ _ (op_ve 33 38 rfl rfl rfl (fun f => op_extract (Lk.t rfl) rfl) (fun f g h => by first | rfl | rw [h 36 (show 36 ∈ [36] from by decide)]) rfl) <|
      .cons (.wr 7) _ _ (op_alloc 7 zr34 rfl rfl) <|
      .cons (.wr 7) _ _ (op_store_new_ve 7 rfl rfl rfl (fun f => co_agg) (fun f g h => by rw [h 36 (show 36 ∈ [36] from by decide)]) (fun _ => sz34) rfl (fun _ => rfl) rfl) <|
      .cons (.no) _ _ (op_assign_ve rfl rfl) <|
      .nil) ff rfl fun g4 => ⟨_, _, [0, 1, 2, 3, 4, 5, 6, 7], rfl, (.cons 3 rfl <| .cons 4 rfl <| .cons 5 rfl <| .cons 7 rfl <| .cons 11 rfl <| .cons 13 rfl <| .cons 15 rfl <| .nil), (.cons 0 rfl <| .cons 1 rfl <| .cons 2 rfl <| .cons 3 rfl <| .cons 4 rfl <| .cons 5 rfl <| .cons 6 rfl <| .cons 7 rfl <| .nil), ?_⟩)
  refine JN_then ?_
  refine J_to (To.emps 2) ?_
  refine J_seq (J_reg [] (
      .cons (.rd 0) _ _ (op_get_ag 0 ag30 (Lk.t rfl) rfl mem_blk rfl rfl) <|
      .cons (.no) _ _ (op_move (Lk.t rfl)) <|
      .cons (.wr 8) _ _ (op_callF 8 (mpickF_ok) ⟨(Lk.t rfl), (Lk.t rfl),  trivial⟩ rfl) <|
      .cons (.no) _ _ (op_move_ve rfl rfl) <|
      .cons (.no) _ _ (op_ve 39 43 rfl rfl rfl (fun f => op_extract (Lk.t rfl) rfl) (fun f g h => by first | rfl | rw [h 42 (show 42 ∈ [42] from by decide)]) rfl) <|
      .cons (.no) _ _ (op_ve 39 44 rfl rfl rfl (fun f => op_extract (Lk.t rfl) rfl) (fun f g h => by first | rfl | rw [h 42 (show 42 ∈ [42] from by decide)]) rfl) <|
      .cons (.wr 9) _ _ (op_alloc 9 zr34 rfl rfl) <|
      .cons (.wr 9) _ _ (op_store_new_ve 9 rfl rfl rfl (fun f => co_agg) (fun f g h => by rw [h 42 (show 42 ∈ [42] from by decide)]) (fun _ => sz34) rfl (fun _ => rfl) rfl) <|
      .cons (.no) _ _ (op_assign_ve rfl rfl) <|
      .nil) ff rfl fun g5 => ⟨_, _, [1, 2, 3, 4, 5, 6, 7, 8, 9], rfl, (.cons 3 rfl <| .cons 7 rfl <| .cons 11 rfl <| .cons 13 rfl <| .cons 15 rfl <| .cons 17 rfl <| .nil), (.cons 1 rfl <| .cons 2 rfl <| .cons 3 rfl <| .cons 4 rfl <| .cons 5 rfl <| .cons 6 rfl <| .cons 7 rfl <| .cons 8 rfl <| .cons 9 rfl <| .nil), ?_⟩)
  refine JN_then ?_
  refine J_to (To.emps 1) ?_
  refine J_seq (J_reg [] (
      .cons (.rd 0) _ _ (op_get_ag 0 ag39 (Lk.t rfl) rfl mem_blk rfl rfl) <|
      .cons (.no) _ _ (op_move (Lk.t rfl)) <|
      .cons (.wr 9) _ _ (op_callF 9 (mseesF_ok) ⟨(Lk.t rfl), (Lk.t rfl),  trivial⟩ rfl) <|
      .cons (.no) _ _ (op_move_ve rfl rfl) <|
      .cons (.no) _ _ (op_ve 45 49 rfl rfl rfl (fun f => op_extract (Lk.t rfl) rfl) (fun f g h => by first | rfl | rw [h 48 (show 48 ∈ [48] from by decide)]) rfl) <|
      .cons (.no) _ _ (op_ve 45 50 rfl rfl rfl (fun f => op_extract (Lk.t rfl) rfl) (fun f g h => by first | rfl | rw [h 48 (show 48 ∈ [48] from by decide)]) rfl) <|
      .cons (.no) _ _ (op_assign_ve rfl rfl) <|
      .cons (.no) _ _ (op_assign_ve rfl rfl) <|
      .nil) ff rfl fun g6 => ⟨_, _, [1, 2, 3, 4, 5, 6, 7, 8, 9], rfl, (.cons 11 rfl <| .cons 13 rfl <| .cons 15 rfl <| .cons 17 rfl <| .cons 19 rfl <| .nil), (.cons 1 rfl <| .cons 2 rfl <| .cons 3 rfl <| .cons 4 rfl <| .cons 5 rfl <| .cons 6 rfl <| .cons 7 rfl <| .cons 8 rfl <| .cons 9 rfl <| .nil), ?_⟩)
  refine JN_then ?_
  refine J_to (To.emps 1) ?_
  refine J_seq (J_reg [] (
      .cons (.rd 1) _ _ (op_get_ag 1 ag34 (Lk.t rfl) rfl mem_blk rfl rfl) <|
      .cons (.rd 3) _ _ (op_get_ag 3 ag34 (Lk.t rfl) rfl mem_blk rfl rfl) <|
      .cons (.rd 5) _ _ (op_get_ag 5 ag34 (Lk.t rfl) rfl mem_blk rfl rfl) <|
      .cons (.rd 7) _ _ (op_get_ag 7 ag34 (Lk.t rfl) rfl mem_blk rfl rfl) <|
      .cons (.no) _ _ (op_move (Lk.t rfl)) <|
      .cons (.rd 8) _ _ (op_len_som 8 sl32 (Lk.t rfl) rfl) <|
      .cons (.no) _ _ (op_move (Lk.t rfl)) <|
      .cons (.no) _ _ (op_build zr34 rfl pl34 (.cons rfl (Lk.k rfl) co_isv rfl (puts_l rfl (Nat.le_of_ble_eq_true rfl)) (.cons rfl (Lk.t rfl) co_isv rfl (puts_l rfl (Nat.le_of_ble_eq_true rfl)) (.cons rfl (Lk.t rfl) co_isv rfl (puts_l rfl (Nat.le_of_ble_eq_true rfl)) .nil)))) <|
      .cons (.wr 9) _ _ (op_buildSliceO 9 sl42 zr34 rfl rfl rfl rfl rfl (.cons rfl (Lk.t rfl) co_agg rfl (puts_l rfl (Nat.le_of_ble_eq_true rfl)) (.cons rfl (Lk.t rfl) co_agg rfl (puts_l rfl (Nat.le_of_ble_eq_true rfl)) (.cons rfl (Lk.t rfl) co_agg rfl (puts_l rfl (Nat.le_of_ble_eq_true rfl)) (.cons rfl (Lk.t rfl) co_agg rfl (puts_l rfl (Nat.le_of_ble_eq_true rfl)) (.cons rfl (Lk.t rfl) co_agg rfl (puts_l rfl (Nat.le_of_ble_eq_true rfl)) .nil)))))) <|
      .cons (.no) _ _ (op_assign_ve rfl rfl) <|
      .nil) ff rfl fun g7 => ⟨_, _, [0, 2, 4, 6, 8, 9], rfl, (.cons 10 rfl <| .nil), (.cons 0 rfl <| .cons 2 rfl <| .cons 4 rfl <| .cons 6 rfl <| .cons 8 rfl <| .cons 9 rfl <| .nil), ?_⟩)
  refine JN_then ?_
  refine J_ret ?_
  refine JN_to (To.res 5 (r' := somk (g7 59) 3 meU [⟨(mxR (blkM moveB ps t)).r, (mxR (blkM moveB ps t)).c, (agP (g2 24))⟩, ⟨(mxR (blkM noiseB ps t)).r, (mxR (blkM noiseB ps t)).c, (agP (g3 30))⟩, ⟨(mxR (blkM rootB ps t)).r, (mxR (blkM rootB ps t)).c, (agP (g4 36))⟩, ⟨(mxR (pickM ps es)).r, (mxR (pickM ps es)).c, (agP (g5 42))⟩, ⟨(lineE (seesR i r c hs rs q xs).a).r, (lineE (seesR i r c hs rs q xs).a).c, (tp0 (g6 48))⟩] 34) rfl (res_eq rfl) rfl) ?_
  refine JN_to (To.emps 1) ?_
  refine JN_to (To.res 6 (r' := pool 0 (fun _ => Go.Bn.emp)) rfl pool_nil rfl) ?_
  refine JN_to (To.push 6 0 rfl rfl rfl rfl) ?_
  refine JN_to (To.push 6 1 rfl rfl rfl rfl) ?_
  refine JN_to (To.push 6 2 rfl rfl rfl rfl) ?_
  refine JN_to (To.push 6 3 rfl rfl rfl rfl) ?_
  refine JN_to (To.push 6 4 rfl rfl rfl rfl) ?_
  refine JN_to (To.res 6 (r' := pool 5 (plE [⟨(mxR (blkM moveB ps t)).r, (mxR (blkM moveB ps t)).c, (agP (g2 24))⟩, ⟨(mxR (blkM noiseB ps t)).r, (mxR (blkM noiseB ps t)).c, (agP (g3 30))⟩, ⟨(mxR (blkM rootB ps t)).r, (mxR (blkM rootB ps t)).c, (agP (g4 36))⟩, ⟨(mxR (pickM ps es)).r, (mxR (pickM ps es)).c, (agP (g5 42))⟩, ⟨(lineE (seesR i r c hs rs q xs).a).r, (lineE (seesR i r c hs rs q xs).a).c, (tp0 (g6 48))⟩] (eOf [mxR (blkM moveB ps t), mxR (blkM noiseB ps t), mxR (blkM rootB ps t), mxR (pickM ps es), lineE (seesR i r c hs rs q xs).a]) 37)) rfl (fun cc ob h => pl_5 cc ob h) rfl) ?_
  refine JN_to (To.join 5 6 rfl rfl rfl rfl) ?_
  refine JN_to (To.res 5 (r' := matsE (g7 59) (ansE ps t i r c hs rs q xs es) 34 37) rfl (fun cc ob h => ⟨⟨[⟨(mxR (blkM moveB ps t)).r, (mxR (blkM moveB ps t)).c, (agP (g2 24))⟩, ⟨(mxR (blkM noiseB ps t)).r, (mxR (blkM noiseB ps t)).c, (agP (g3 30))⟩, ⟨(mxR (blkM rootB ps t)).r, (mxR (blkM rootB ps t)).c, (agP (g4 36))⟩, ⟨(mxR (pickM ps es)).r, (mxR (pickM ps es)).c, (agP (g5 42))⟩, ⟨(lineE (seesR i r c hs rs q xs).a).r, (lineE (seesR i r c hs rs q xs).a).c, (tp0 (g6 48))⟩], re_5⟩, h⟩) rfl) ?_
  refine JN_retF (u := (g7 59)) 5 rfl rfl (.tmp (Lk.t rfl)) (fun _ _ h => h.1) ?_
  exact sb_refl
theorem ansN_ok {ps : List Prt} {t i r c : Int} {hs rs : List Nat} {q : Nat} {xs : List Nat} {es : List Int} : CtN Tryd.prog 7 [MotP ps, isv (.int .i64 t), SenP i r c hs rs q, fls xs, ils .i64 es] (slk 3 mtM (ansE ps t i r c hs rs q xs es)) := ansF_ok.ctN (fun u => frz_matsE) (fun n u => pure_matsE.n) (fun n u => np_pure (pure_isv _)) fun u => sb_fk 0 rfl
theorem ans_ok {ps : List Prt} {t i r c : Int} {hs rs : List Nat} {q : Nat} {xs : List Nat} {es : List Int} : Ct Tryd.prog 7 [MotP ps, isv (.int .i64 t), SenP i r c hs rs q, fls xs, ils .i64 es] (slk 3 mtM (ansE ps t i r c hs rs q xs es)) := ansN_ok.ct
end Go.Proofs.YtjfkpnacfnnkhaaDoor
