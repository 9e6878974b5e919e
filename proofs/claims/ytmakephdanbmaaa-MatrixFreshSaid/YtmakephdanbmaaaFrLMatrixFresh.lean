/- For every input the law MatrixFresh returns true, and each argument reads afterwards as it read before. No condition. (Printed by a program of ours, row.py.) -/
import Derived.Test.YtmakephdanbmaaaRows
import Derived.Test.YtmakephdanbmaaaFrOpens
import Derived.Test.YtmakephdanbmaaaFrWFresh
import Derived.ProofKit
set_option linter.unusedVariables false
set_option linter.unusedSimpArgs false
namespace Go.Proofs.Ytmakephdanbmaaa.matrixFreshDone
open Go.ChangeShapes Go.WideShapes Go.ChangeAt Go.RowKit Go Go.Bn
theorem own : ownKnob Try.prog.godebug = none := by kernel_rfl
theorem laidOut : laidOutB Try.prog = true := by kernel_rfl
set_option maxRecDepth 100000 in
theorem lifted (os : Os) (started : os.Started) (H : Type) (enc : TypeId × Value → H) :
    ReturnsInHanded {} Try.checked os 4 .any (Rows.matrixFreshSpec.pre6 enc Try.prog Try.f4 Rows.matrixFreshRow.domain false) (Rows.matrixFreshSpec.post enc Try.prog Try.f4 false true false false) := by
  refine returnsInHanded_of_change_sized (C := Try.checked) own started (by kernel_rfl) Try.func4
    (ChangeSpec.witness6 (enc := enc) (C := Try.checked) false ⟨#[], #[.agg #[.int .i64 0, .int .i64 0, .slice none 0 0], .agg #[.int .i64 0, .int .i64 0, .slice none 0 0], .slice none 0 0, .slice none 0 0, .int .i64 0, .int .i64 0, .int .i64 0, .int .i64 0, .slice none 0 0], []⟩ 8 (by kernel_rfl) (by kernel_rfl) (by kernel_rfl) (by kernel_rfl)) ?_
  intro W base args ds gs before hval0 hW hcnd hsz0 _
  have hval : ∀ (j : Nat) t v, Try.f4.params[j]? = some t → args[j]? = some v → Value.okWide Try.prog W .any base t v := hval0
  have hW' := hW
  obtain ⟨p, q, hA0, hV, rfl, hfz, hnd⟩ := hW
  have hA : DataW.TrodAll enc Try.prog W 0 (fun _ => true) true Try.f4.params.toList args.toList ds p := hA0
  obtain ⟨rfl, rfl⟩ := trodVars_none hV
  have hsz : (DataW.weightsEach Try.prog (Try.f4.params.toList ++ []) (ds ++ [])).all (· ≤ reachBytes) = true := hsz0
  rw [List.append_nil, List.append_nil] at hsz
  rw [Try.params4] at hA hval hsz
  obtain ⟨v0, vs0, d0, ds0, p0, q0, hargs, rfl, rfl, h0, r0⟩ := trodAll_cons hA
  obtain ⟨v1, vs1, d1, ds1, p1, q1, rfl, rfl, rfl, h1, r1⟩ := trodAll_cons r0
  obtain ⟨v2, vs2, d2, ds2, p2, q2, rfl, rfl, rfl, h2, r2⟩ := trodAll_cons r1
  obtain ⟨v3, vs3, d3, ds3, p3, q3, rfl, rfl, rfl, h3, r3⟩ := trodAll_cons r2
  obtain ⟨v4, vs4, d4, ds4, p4, q4, rfl, rfl, rfl, h4, r4⟩ := trodAll_cons r3
  obtain ⟨v5, vs5, d5, ds5, p5, q5, rfl, rfl, rfl, h5, r5⟩ := trodAll_cons r4
  obtain ⟨v6, vs6, d6, ds6, p6, q6, rfl, rfl, rfl, h6, r6⟩ := trodAll_cons r5
  obtain ⟨v7, vs7, d7, ds7, p7, q7, rfl, rfl, rfl, h7, r7⟩ := trodAll_cons r6
  obtain ⟨v8, vs8, d8, ds8, p8, q8, rfl, rfl, rfl, h8, r8⟩ := trodAll_cons r7
  obtain ⟨rfl, rfl, rfl⟩ := trodAll_nil r8
  obtain rfl : args = #[v0, v1, v2, v3, v4, v5, v6, v7, v8] := by cases args; simp_all
  have hsz1 : ∀ x, x ∈ DataW.weightsEach Try.prog [24, 24, 22, 22, 3, 3, 3, 3, 46] [d0, d1, d2, d3, d4, d5, d6, d7, d8] → x ≤ reachBytes := fun x hx => of_decide_eq_true (List.all_eq_true.1 hsz x hx)
  have k0 := h0
  have lt0 : ∀ x ∈ p0, x.block < W.heap.size := by obtain ⟨m, hm⟩ := k0; exact DataW.trod_lt m _ _ _ hm
  obtain ⟨⟨r0, c0, b0⟩, ⟨_, _, g0⟩, w0⟩ := op24 H enc W base v0 d0 p0 (hval 0 24 v0 rfl rfl) h0 fun x hx => hsz1 x (DataW.weights_mem_each (j := 0) (t := 24) (d := d0) rfl rfl x hx)
  have k1 := h1
  have lt1 : ∀ x ∈ p1, x.block < W.heap.size := by obtain ⟨m, hm⟩ := k1; exact DataW.trod_lt m _ _ _ hm
  obtain ⟨⟨r1, c1, b1⟩, ⟨_, _, g1⟩, w1⟩ := op24 H enc W base v1 d1 p1 (hval 1 24 v1 rfl rfl) h1 fun x hx => hsz1 x (DataW.weights_mem_each (j := 1) (t := 24) (d := d1) rfl rfl x hx)
  have k2 := h2
  have lt2 : ∀ x ∈ p2, x.block < W.heap.size := by obtain ⟨m, hm⟩ := k2; exact DataW.trod_lt m _ _ _ hm
  obtain ⟨b2, g2, w2⟩ := op22 H enc W base v2 d2 p2 (hval 2 22 v2 rfl rfl) h2 fun x hx => hsz1 x (DataW.weights_mem_each (j := 2) (t := 22) (d := d2) rfl rfl x hx)
  have k3 := h3
  have lt3 : ∀ x ∈ p3, x.block < W.heap.size := by obtain ⟨m, hm⟩ := k3; exact DataW.trod_lt m _ _ _ hm
  obtain ⟨b3, g3, w3⟩ := op22 H enc W base v3 d3 p3 (hval 3 22 v3 rfl rfl) h3 fun x hx => hsz1 x (DataW.weights_mem_each (j := 3) (t := 22) (d := d3) rfl rfl x hx)
  have k4 := h4
  have lt4 : ∀ x ∈ p4, x.block < W.heap.size := by obtain ⟨m, hm⟩ := k4; exact DataW.trod_lt m _ _ _ hm
  obtain ⟨b4, g4, w4⟩ := op3 H enc W base v4 d4 p4 (hval 4 3 v4 rfl rfl) h4 fun x hx => hsz1 x (DataW.weights_mem_each (j := 4) (t := 3) (d := d4) rfl rfl x hx)
  have k5 := h5
  have lt5 : ∀ x ∈ p5, x.block < W.heap.size := by obtain ⟨m, hm⟩ := k5; exact DataW.trod_lt m _ _ _ hm
  obtain ⟨b5, g5, w5⟩ := op3 H enc W base v5 d5 p5 (hval 5 3 v5 rfl rfl) h5 fun x hx => hsz1 x (DataW.weights_mem_each (j := 5) (t := 3) (d := d5) rfl rfl x hx)
  have k6 := h6
  have lt6 : ∀ x ∈ p6, x.block < W.heap.size := by obtain ⟨m, hm⟩ := k6; exact DataW.trod_lt m _ _ _ hm
  obtain ⟨b6, g6, w6⟩ := op3 H enc W base v6 d6 p6 (hval 6 3 v6 rfl rfl) h6 fun x hx => hsz1 x (DataW.weights_mem_each (j := 6) (t := 3) (d := d6) rfl rfl x hx)
  have k7 := h7
  have lt7 : ∀ x ∈ p7, x.block < W.heap.size := by obtain ⟨m, hm⟩ := k7; exact DataW.trod_lt m _ _ _ hm
  obtain ⟨b7, g7, w7⟩ := op3 H enc W base v7 d7 p7 (hval 7 3 v7 rfl rfl) h7 fun x hx => hsz1 x (DataW.weights_mem_each (j := 7) (t := 3) (d := d7) rfl rfl x hx)
  have k8 := h8
  have lt8 : ∀ x ∈ p8, x.block < W.heap.size := by obtain ⟨m, hm⟩ := k8; exact DataW.trod_lt m _ _ _ hm
  obtain ⟨b8, g8, w8⟩ := op46 H enc W base v8 d8 p8 (hval 8 46 v8 rfl rfl) h8 fun x hx => hsz1 x (DataW.weights_mem_each (j := 8) (t := 46) (d := d8) rfl rfl x hx)
  clear hA0 hval0
  refine (Ct.at (fresh_ok g0 g1 g2 g3 g8) (vs := [v0, v1, v2, v3, v4, v5, v6, v7, v8]) (⟨w0, ⟨w1, ⟨w2, ⟨w3, ⟨w4, ⟨w5, ⟨w6, ⟨w7, ⟨w8, trivial⟩⟩⟩⟩⟩⟩⟩⟩⟩)).mono fun e W' ⟨he, bel⟩ => ?_
  subst he
  exact ⟨_, rfl, _, _, _, [], _, [], hW', trodAll_mk1 (shut_bool Try.underlying4 _), (trodAll_cons_mk (Below.trod laidOut (by kernel_rfl) (of_decide_eq_true (by kernel_rfl)) k0 bel lt0) (trodAll_cons_mk (Below.trod laidOut (by kernel_rfl) (of_decide_eq_true (by kernel_rfl)) k1 bel lt1) (trodAll_cons_mk (Below.trod laidOut (by kernel_rfl) (of_decide_eq_true (by kernel_rfl)) k2 bel lt2) (trodAll_cons_mk (Below.trod laidOut (by kernel_rfl) (of_decide_eq_true (by kernel_rfl)) k3 bel lt3) (trodAll_cons_mk (Below.trod laidOut (by kernel_rfl) (of_decide_eq_true (by kernel_rfl)) k4 bel lt4) (trodAll_cons_mk (Below.trod laidOut (by kernel_rfl) (of_decide_eq_true (by kernel_rfl)) k5 bel lt5) (trodAll_cons_mk (Below.trod laidOut (by kernel_rfl) (of_decide_eq_true (by kernel_rfl)) k6 bel lt6) (trodAll_cons_mk (Below.trod laidOut (by kernel_rfl) (of_decide_eq_true (by kernel_rfl)) k7 bel lt7) (trodAll_cons_mk (Below.trod laidOut (by kernel_rfl) (of_decide_eq_true (by kernel_rfl)) k8 bel lt8) trodAll_mk0))))))))), rfl, bel.frame _, fun h => by cases h⟩
theorem over : Rows.matrixFreshRow.holds Try.pinned (OpenSpec.ofChange Rows.matrixFreshSpec) :=
  OpenClaim.holds_of_wide 4 Try.f4 rfl rfl rfl rfl rfl rfl rfl ⟨rfl, rfl, rfl, rfl, rfl⟩ rfl rfl rfl rfl rfl (by kernel_rfl) Try.func4 (by kernel_rfl)
    (of_decide_eq_true (by kernel_rfl)) (by unfold Func.isWrapper; first | (rw [if_pos (by decide +kernel)]; kernel_rfl) | (rw [if_neg (by decide +kernel)]; exact ⟨rfl, rfl⟩))
    (fun os started H enc _ => lifted os started H enc)
theorem proved : Rows.MatrixFreshSaid := over
#print axioms proved
end Go.Proofs.Ytmakephdanbmaaa.matrixFreshDone
