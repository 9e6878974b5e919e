/- For every input the law QrFresh returns true, and each argument reads afterwards as it read before. No condition. (Printed by a program of ours, row.py.) -/
import Derived.Test.YtllkellonjhalaaRows
import Derived.Test.YtllkellonjhalaaFqOpens
import Derived.Test.YtllkellonjhalaaFqWQfresh
import Derived.ProofKit
set_option linter.unusedVariables false
set_option linter.unusedSimpArgs false
namespace Go.Proofs.Ytllkellonjhalaa.qrFreshDone
open Go.ChangeShapes Go.WideShapes Go.ChangeAt Go.RowKit Go Go.Bn
theorem own : ownKnob Try.prog.godebug = none := by kernel_rfl
theorem laidOut : laidOutB Try.prog = true := by kernel_rfl
set_option maxRecDepth 100000 in
theorem lifted (os : Os) (started : os.Started) (H : Type) (enc : TypeId × Value → H) :
  ReturnsInHanded {} Try.checked os 3 .any (Rows.qrFreshSpec.pre6 enc Try.prog Try.f3 Rows.qrFreshRow.domain false) (Rows.qrFreshSpec.post enc Try.prog Try.f3 false true false false) := by
 refine returnsInHanded_of_change_sized (C := Try.checked) own started (by kernel_rfl) Try.func3
  (ChangeSpec.witness6 (enc := enc) (C := Try.checked) false ⟨#[], #[.agg #[.int .i64 0, .int .i64 0, .slice none 0 0], .slice none 0 0, .slice none 0 0, .int .i64 0, .int .i64 0, .int .u64 0, .int .u64 0], []⟩ 8 (by kernel_rfl) (by kernel_rfl) (by kernel_rfl) (by kernel_rfl)) ?_
 intro W base args ds gs before hval0 hW hcnd hsz0 _
 have hval : ∀ (j : Nat) t v, Try.f3.params[j]? = some t → args[j]? = some v → Value.okWide Try.prog W .any base t v := hval0
 have hW' := hW
 obtain ⟨p, q, hA0, hV, rfl, hfz, hnd⟩ := hW
 have hA : DataW.TrodAll enc Try.prog W 0 (fun _ => true) true Try.f3.params.toList args.toList ds p := hA0
 obtain ⟨rfl, rfl⟩ := trodVars_none hV
 have hsz : (DataW.weightsEach Try.prog (Try.f3.params.toList ++ []) (ds ++ [])).all (· ≤ reachBytes) = true := hsz0
 rw [List.append_nil, List.append_nil] at hsz
 rw [Try.params3] at hA hval hsz
 obtain ⟨v0, vs0, d0, ds0, p0, q0, hargs, rfl, rfl, h0, r0⟩ := trodAll_cons hA
 obtain ⟨v1, vs1, d1, ds1, p1, q1, rfl, rfl, rfl, h1, r1⟩ := trodAll_cons r0
 obtain ⟨v2, vs2, d2, ds2, p2, q2, rfl, rfl, rfl, h2, r2⟩ := trodAll_cons r1
 obtain ⟨v3, vs3, d3, ds3, p3, q3, rfl, rfl, rfl, h3, r3⟩ := trodAll_cons r2
 obtain ⟨v4, vs4, d4, ds4, p4, q4, rfl, rfl, rfl, h4, r4⟩ := trodAll_cons r3
 obtain ⟨v5, vs5, d5, ds5, p5, q5, rfl, rfl, rfl, h5, r5⟩ := trodAll_cons r4
 obtain ⟨v6, vs6, d6, ds6, p6, q6, rfl, rfl, rfl, h6, r6⟩ := trodAll_cons r5
 obtain ⟨rfl, rfl, rfl⟩ := trodAll_nil r6
 obtain rfl : args = #[v0, v1, v2, v3, v4, v5, v6] := by cases args; simp_all
 have hsz1 : ∀ x, x ∈ DataW.weightsEach Try.prog [24, 22, 25, 3, 3, 26, 26] [d0, d1, d2, d3, d4, d5, d6] → x ≤ reachBytes := fun x hx => of_decide_eq_true (List.all_eq_true.1 hsz x hx)
 have k0 := h0
 have lt0 : ∀ x ∈ p0, x.block < W.heap.size := by obtain ⟨m, hm⟩ := k0; exact DataW.trod_lt m _ _ _ hm
 obtain ⟨⟨r0, c0, b0⟩, ⟨_, _, g0⟩, w0⟩ := op24 H enc W base v0 d0 p0 (hval 0 24 v0 rfl rfl) h0 fun x hx => hsz1 x (DataW.weights_mem_each (j := 0) (t := 24) (d := d0) rfl rfl x hx)
 have k1 := h1
 have lt1 : ∀ x ∈ p1, x.block < W.heap.size := by obtain ⟨m, hm⟩ := k1; exact DataW.trod_lt m _ _ _ hm
 obtain ⟨b1, g1, w1⟩ := op22 H enc W base v1 d1 p1 (hval 1 22 v1 rfl rfl) h1 fun x hx => hsz1 x (DataW.weights_mem_each (j := 1) (t := 22) (d := d1) rfl rfl x hx)
 have k2 := h2
 have lt2 : ∀ x ∈ p2, x.block < W.heap.size := by obtain ⟨m, hm⟩ := k2; exact DataW.trod_lt m _ _ _ hm
 obtain ⟨m2, g2, w2⟩ := os25 H enc W base v2 d2 p2 (hval 2 25 v2 rfl rfl) h2 fun x hx => hsz1 x (DataW.weights_mem_each (j := 2) (t := 25) (d := d2) rfl rfl x hx)
 have k3 := h3
 have lt3 : ∀ x ∈ p3, x.block < W.heap.size := by obtain ⟨m, hm⟩ := k3; exact DataW.trod_lt m _ _ _ hm
 obtain ⟨b3, g3, w3⟩ := op3 H enc W base v3 d3 p3 (hval 3 3 v3 rfl rfl) h3 fun x hx => hsz1 x (DataW.weights_mem_each (j := 3) (t := 3) (d := d3) rfl rfl x hx)
 have k4 := h4
 have lt4 : ∀ x ∈ p4, x.block < W.heap.size := by obtain ⟨m, hm⟩ := k4; exact DataW.trod_lt m _ _ _ hm
 obtain ⟨b4, g4, w4⟩ := op3 H enc W base v4 d4 p4 (hval 4 3 v4 rfl rfl) h4 fun x hx => hsz1 x (DataW.weights_mem_each (j := 4) (t := 3) (d := d4) rfl rfl x hx)
 have k5 := h5
 have lt5 : ∀ x ∈ p5, x.block < W.heap.size := by obtain ⟨m, hm⟩ := k5; exact DataW.trod_lt m _ _ _ hm
 obtain ⟨b5, g5, w5⟩ := op26 H enc W base v5 d5 p5 (hval 5 26 v5 rfl rfl) h5 fun x hx => hsz1 x (DataW.weights_mem_each (j := 5) (t := 26) (d := d5) rfl rfl x hx)
 have k6 := h6
 have lt6 : ∀ x ∈ p6, x.block < W.heap.size := by obtain ⟨m, hm⟩ := k6; exact DataW.trod_lt m _ _ _ hm
 obtain ⟨b6, g6, w6⟩ := op26 H enc W base v6 d6 p6 (hval 6 26 v6 rfl rfl) h6 fun x hx => hsz1 x (DataW.weights_mem_each (j := 6) (t := 26) (d := d6) rfl rfl x hx)
 clear hA0 hval0
 refine (Ct.at (qfresh_ok g0 g1 g2 g5 g6) (vs := [v0, v1, v2, v3, v4, v5, v6]) (⟨w0, ⟨w1, ⟨w2, ⟨w3, ⟨w4, ⟨w5, ⟨w6, trivial⟩⟩⟩⟩⟩⟩⟩)).mono fun e W' ⟨he, bel⟩ => ?_
 subst he
 exact ⟨_, rfl, _, _, _, [], _, [], hW', trodAll_mk1 (shut_bool Try.underlying4 _), (trodAll_cons_mk (Below.trod laidOut (by kernel_rfl) (of_decide_eq_true (by kernel_rfl)) k0 bel lt0) (trodAll_cons_mk (Below.trod laidOut (by kernel_rfl) (of_decide_eq_true (by kernel_rfl)) k1 bel lt1) (trodAll_cons_mk (Below.trod laidOut (by kernel_rfl) (of_decide_eq_true (by kernel_rfl)) k2 bel lt2) (trodAll_cons_mk (Below.trod laidOut (by kernel_rfl) (of_decide_eq_true (by kernel_rfl)) k3 bel lt3) (trodAll_cons_mk (Below.trod laidOut (by kernel_rfl) (of_decide_eq_true (by kernel_rfl)) k4 bel lt4) (trodAll_cons_mk (Below.trod laidOut (by kernel_rfl) (of_decide_eq_true (by kernel_rfl)) k5 bel lt5) (trodAll_cons_mk (Below.trod laidOut (by kernel_rfl) (of_decide_eq_true (by kernel_rfl)) k6 bel lt6) trodAll_mk0))))))), rfl, bel.frame _, fun h => by cases h⟩
theorem over : Rows.qrFreshRow.holds Try.pinned (OpenSpec.ofChange Rows.qrFreshSpec) :=
 OpenClaim.holds_of_wide 3 Try.f3 rfl rfl rfl rfl rfl rfl rfl ⟨rfl, rfl, rfl, rfl, rfl⟩ rfl rfl rfl rfl rfl (by kernel_rfl) Try.func3 (by kernel_rfl)
  (of_decide_eq_true (by kernel_rfl)) (by unfold Func.isWrapper; first | (rw [if_pos (by decide +kernel)]; kernel_rfl) | (rw [if_neg (by decide +kernel)]; exact ⟨rfl, rfl⟩))
  (fun os started H enc _ => lifted os started H enc)
theorem proved : Rows.QrFreshSaid := over
#print axioms proved
end Go.Proofs.Ytllkellonjhalaa.qrFreshDone
