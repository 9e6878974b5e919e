/-
 A slice put behind a part of itself: one element left out, in place.
-/
import Derived.Test.YtcpififnffmjfaaGreatDoorZsBik
import Derived.Test.YtcpififnffmjfaaGreatDoorZsSeg
set_option linter.unusedVariables false
set_option linter.unusedSimpArgs false
namespace Go.Bn
open Go
section ops
variable {P : Program} {n : Nat} {ops : Array Oper} {Γ : Facts} {ρ : Env} {δ : VEnv} {τ : List VR}
variable {d : Nat} {ty : TypeId} {pos : String} {af : Array Edge}
def cutW : Value → Nat → Value
 | .slice b _ c, k => .slice b k c
 | v, _ => v
theorem op_slice_cut {α : Type} {mk : α → SP} {xs : List α} {x hi : Operand} {T E eb : Nat} {k1 : IntKind} {h : Int} {sv : Value} {T' : TypeId} (k : Nat) (ht : slT P T = some (E, 1, eb)) (hx : Lk Γ δ ρ x (isv sv)) (hhi : Lk Γ δ ρ hi (isv (.int k1 h))) (hk : nth τ k = some (.c (som sv mk xs T'))) (h0 : 0 ≤ h) (h1 : h ≤ xs.length) (hne : 0 < xs.length) :
  OpOK P n ops Γ ρ δ τ ⟨some d, .slice T x none (some hi) none, ty, pos, af, none⟩ (.rd k) (.c (isv (cutW sv h.toNat))) dum :=
 ok_read hk fun a c ob _ hr hh => by
  have hv := (hr x _ (by simp [Op.operands]) hx).1
  have hz := (hr hi _ (by simp [Op.operands]) hhi).1
  obtain ⟨hu, i, hi', hs, _⟩ := slT_u ht
  rcases hh.2 with ⟨h2, h3, _⟩ | ⟨b, cap, cur, h2, h3, h4, h5, h6, h7⟩
  ·omega
  ·refine ⟨.slice (some ⟨b, 0, none⟩) h.toNat cap, ?_, by rw [h2]; rfl, by rw [h2]; rfl⟩
   have hl : h ≤ (cap : Int) := by omega
   simp [execOp, Instr.sliceAt, Instr.slice, run_underlying hu, h2, hv, hz, Instr.sliceBounds, Instr.sliceBound, asIntOf, sizeOf, typeInfo, hi', hs, hl, h0, Addr.add]
theorem op_slice_vslm {α : Type} {mk : α → SP} {xs : List α} {x lo : Operand} {T E eb : Nat} {k1 : IntKind} {l : Int} {sv : Value} {T' : TypeId} {m : Nat} (k : Nat) (ht : slT P T = some (E, 1, eb)) (hx : Lk Γ δ ρ x (isv sv)) (hlo : Lk Γ δ ρ lo (isv (.int k1 l))) (hk : nth τ k = some (.c (som sv mk xs T'))) (h0 : 0 ≤ l) (h1 : l ≤ xs.length) (hm : l.toNat = m) :
  OpOK P n ops Γ ρ δ τ ⟨some d, .slice T x (some lo) none none, ty, pos, af, none⟩ (.rd k) (.c (vsl sv m xs.length)) dum := by
 subst hm
 exact op_slice_vsl k ht hx hlo hk h0 h1
theorem op_append_self {α : Type} {mk : α → SP} {xs : List α} {i : Nat} {x y : Operand} {T E eb : Nat} {zs : List Value} {u : Value} (k : Nat) (ht : slT P T = some (E, 1, eb)) (hz : zrT P E = some zs) (hzl : Nat.beq zs.length 1 = true) (hx : Lk Γ δ ρ x (isv (cutW u i))) (hy : Lk Γ δ ρ y (vsl u (i + 1) xs.length)) (hk : nth τ k = some (.c (som u mk xs E))) (hi : i < xs.length) (h63 : xs.length ≤ 9223372036854775807) (hb : xs.length * eb ≤ 140737488355328) :
  OpOK P n ops Γ ρ δ τ ⟨some d, .call ⟨.builtin .append, #[x, y], #[T, T]⟩, ty, pos, af, none⟩ (.wr k) (slAt d) (.d [d] (fun f => som (f d) mk (xs.take i ++ xs.drop (i + 1)) E) (fun f g h => by rw [h d (List.mem_singleton.2 rfl)])) := by
 intro a c ob hs hwf hf hr hres hno hown
 obtain ⟨r0, hr0, hh⟩ := hres k rfl
 rw [hk] at hr0
 cases hr0
 have hrd := Lk.val (o := ⟨some d, .call ⟨.builtin .append, #[x, y], #[T, T]⟩, ty, pos, af, none⟩) hr hf (x := x) (by simp [Op.operands, Call.operands]) hx
 have hyv := Lk.val (o := ⟨some d, .call ⟨.builtin .append, #[x, y], #[T, T]⟩, ty, pos, af, none⟩) hr hf (x := y) (by simp [Op.operands, Call.operands]) hy
 obtain ⟨hu, ti, hti, hsz, hbb⟩ := slT_u ht
 unfold zrT at hz
 rw [hti] at hz
 simp only [Option.bind_some] at hz
 cases hzz : ti.zero with
 | none => rw [hzz] at hz; cases hz
 | some z =>
  rw [hzz] at hz
  simp only [Option.map_some, Option.some.injEq] at hz
  have hzs : z.cells.size = 1 := by
   have : zs.length = 1 := Nat.eq_of_beq_eq_true hzl
   rw [← hz] at this
   simpa using this
  obtain ⟨hlen, hcase⟩ := hh
  rcases hcase with ⟨_, h2, _⟩ | ⟨b, cap, cur, h1, h2, h3, h4, h5, h6, h7⟩
  ·omega
  have hcap : i + 1 ≤ cap := by omega
  have hxv : a.eval x = .slice (some ⟨b, 0, none⟩) i cap := by rw [hrd.1, h1]; rfl
  have hyx : a.eval y = .slice (some ⟨b, if cap = i + 1 then 0 else i + 1, none⟩) (xs.length - (i + 1)) (cap - (i + 1)) := by
   rcases hyv with ⟨q1, _⟩ | ⟨b', cap', q1, q2, q3, q4, q5⟩
   ·rw [h1] at q1; cases q1
   ·rw [h1] at q1; cases q1; exact q5
  obtain ⟨nsv, hnsv⟩ : ∃ nsv, nsv = (cur.toList.drop (i + 1)).take (xs.length - (i + 1)) := ⟨_, rfl⟩
  have hcs : cur.toList.length = cap := by simpa using h6
  have hnl : nsv.length = (xs.length - (i + 1)) * 1 := by rw [hnsv, List.length_take, List.length_drop, hcs]; omega
  have hat : ∀ (j : Nat) (v : Value), nsv[j]? = some v → j < xs.length - (i + 1) ∧ cur[i + 1 + j]? = some v := fun j v h => by
   have hj := (List.getElem?_eq_some_iff.1 h).1
   rw [hnsv, List.getElem?_take, if_pos (by omega), List.getElem?_drop] at h
   exact ⟨by omega, by simpa using h⟩
  have hcell : ∀ (j : Nat) (hj : j < xs.length), ∃ v, cur[j]? = some v ∧ v.oneCell' = true ∧ (mk xs[j]).H v c := fun j hj => by
   obtain ⟨v, g1, g2, g3⟩ := h7 j (mk xs[j]) (by rw [nth_eq, List.getElem?_map, List.getElem?_eq_getElem hj]; rfl)
   rw [Nat.zero_add] at g1
   exact ⟨v, g1, g2, g3⟩
  have hnone : ∀ v ∈ nsv, v.oneCell' = true := fun v hv => by
   obtain ⟨j, hj, he⟩ := List.getElem_of_mem hv
   obtain ⟨q1, q2⟩ := hat j v (by rw [List.getElem?_eq_getElem hj, he])
   obtain ⟨v', g1, g2, _⟩ := hcell (i + 1 + j) (by omega)
   rw [q2] at g1; cases g1; exact g2
  have hncell : ∀ j v, nsv[j]? = some v → c.w.cell? ((⟨b, if cap = i + 1 then 0 else i + 1, none⟩ : Addr).add j) = some v := fun j v h => by
   obtain ⟨q1, q2⟩ := hat j v h
   rw [if_neg (by omega), addr_add]
   simp [World.cell?, h5, q2]
  have hcl : CL ((xs.take i).map mk) (cur.toList.take (i * 1)).toArray 0 c := fun j p hj => by
   have hjl := nth_lt hj
   rw [List.length_map, List.length_take] at hjl
   obtain ⟨v, g1, g2, g3⟩ := hcell j (by omega)
   rw [nth_eq, List.getElem?_map, List.getElem?_take, if_pos (by omega), List.getElem?_eq_getElem (by omega)] at hj
   simp only [Option.map_some, Option.some.injEq] at hj
   subst hj
   refine ⟨v, ?_, g2, g3⟩
   rw [Nat.zero_add, List.getElem?_toArray, List.getElem?_take, if_pos (by omega)]
   simpa using g1
  have hnCL : CL ((xs.drop (i + 1)).map mk) nsv.toArray 0 c := fun j p hj => by
   have hjl := nth_lt hj
   rw [List.length_map, List.length_drop] at hjl
   obtain ⟨v, g1, g2, g3⟩ := hcell (i + 1 + j) (by omega)
   rw [nth_eq, List.getElem?_map, List.getElem?_drop, List.getElem?_eq_getElem (by omega)] at hj
   simp only [Option.map_some, Option.some.injEq] at hj
   subst hj
   refine ⟨v, ?_, g2, g3⟩
   rw [Nat.zero_add, List.getElem?_toArray, hnsv, List.getElem?_take, if_pos (by omega), List.getElem?_drop]
   simpa using g1
  have hsum : i + (xs.length - (i + 1)) = xs.length - 1 := by omega
  obtain ⟨v', w', g1, g2⟩ := run_app (P := P) (ty := ty) c.w hu hti hzz hsz hbb hzs (by omega) (sv := .slice (some ⟨b, 0, none⟩) i cap) (m := i) cur b cap (.inr ⟨rfl, by omega, h4, h5, h6⟩) (m' := xs.length - (i + 1)) nsv _ _ (.inl hyx) hnl hncell hnone (by omega) (by rw [hsum]; exact Nat.le_trans (Nat.mul_le_mul_right eb (by omega)) hb)
  simp only [Region.wanted, if_true]
  unfold Does
  have hex : (execOp a.eval ⟨some d, .call ⟨.builtin .append, #[x, y], #[T, T]⟩, ty, pos, af, none⟩).run P c.w = .ok (.value v') w' := by
   simp only [execOp, resolve, invoke, builtin, Sem.run_bind, Sem.run_pure, Result.andThen_ok, List.map_toArray, List.map_cons, List.map_nil, hxv, g1]
  rw [hex]
  have hml : (xs.take i ++ xs.drop (i + 1)).length = i + (xs.length - (i + 1)) := by rw [List.length_append, List.length_take, List.length_drop]; omega
  have hll : ((xs.take i ++ xs.drop (i + 1)).map mk).length = (xs.take i ++ xs.drop (i + 1)).length * 1 := by rw [List.length_map, Nat.mul_one]
  have htl : (cur.toList.take (i * 1)).length = ((xs.take i).map mk).length := by rw [List.length_take, hcs, List.length_map, List.length_take]; omega
  rcases g2 with ⟨e1, e2, e3⟩ | ⟨e1, e2, e3, e4⟩ | ⟨cap', rest, e1, e2, e3, e4, e5⟩
  ·subst e2; subst e3
   have hd0 : xs.drop (i + 1) = [] := List.drop_eq_nil_of_le (by omega)
   refine ⟨c, ob, rfl, ⟨rfl, rfl, rfl, Nat.le_refl _, fun _ _ _ => rfl, fun _ _ => ⟨id, .inl⟩, .inl rfl, hwf⟩, ?_, fun _ => ?_⟩
   ·simp only [slAt, VE.at, upd_eq]
    exact ⟨rfl, rfl⟩
   ·simp only [VR.at, upd_eq]
    refine ⟨hll, .inr ⟨b, cap, cur, by rw [hml, show xs.length - (i + 1) = 0 by omega]; rfl, h2, by omega, h4, h5, h6, ?_⟩⟩
    rw [hd0, List.append_nil]
    exact fun j p hj => by
     obtain ⟨v, k1, k2, k3⟩ := hcl j p hj
     refine ⟨v, ?_, k2, k3⟩
     rw [Nat.zero_add, List.getElem?_toArray, List.getElem?_take] at k1
     split at k1
     ·rw [Nat.zero_add]; simpa using k1
     ·cases k1
  ·subst e4
   let c' : EW := ⟨c.w.setRow b (cur.toList.take (i * 1) ++ nsv ++ cur.toList.drop (i * 1 + nsv.length)).toArray, c.M⟩
   have htr : Tr c ob true c' ob := by
    refine ⟨rfl, rfl, rfl, by simp [c', World.setRow], fun j hj hne => ?_, fun _ _ => ⟨id, .inl⟩, .inl rfl, fun j hj => by simp [c', World.setRow]; exact hwf j hj⟩
    exact setRow_other c.w b j _ (fun e => hne rfl (by rw [h2, e]; rfl))
   have hle : Le c c' := htr.le fun b hb => (hown b hb).1
   refine ⟨c', ob, rfl, htr, ?_, fun _ => ?_⟩
   ·simp only [slAt, VE.at, upd_eq]
    exact ⟨rfl, by rw [e3]; rfl⟩
   ·simp only [VR.at, upd_eq]
    refine ⟨hll, .inr ⟨b, cap, _, by rw [hml]; exact e3, h2, by omega, h4, setRow_heap c.w b cur _ E (0, 0) h5, ?_, ?_⟩⟩
    ·rw [List.size_toArray, List.length_append, List.length_append, htl, List.length_drop, hcs, hnl, List.length_map, List.length_take]
     omega
    ·rw [List.map_append]
     exact (CL_append hcl hnCL htl (by rw [hnl, List.length_map, List.length_drop]; omega)).st hle
  ·subst e4
   let c' : EW := ⟨c.w.drew.alloc (.cells ((cur.toList.take (i * 1)).toArray ++ nsv.toArray ++ rest) E), fun k => c.M k ∨ k = c.w.heap.size⟩
   have hsize : (c.w.drew.alloc (.cells ((cur.toList.take (i * 1)).toArray ++ nsv.toArray ++ rest) E)).heap.size = c.w.heap.size + 1 := by simp
   have htr : Tr c ob true c' (only c.w.heap.size) := by
    refine ⟨rfl, rfl, rfl, by simp [c'], fun j hj _ => heap_alloc_old c.w.drew _ j hj, fun j hj => ⟨fun h => h.resolve_right (by omega), fun h => .inl (.inl h)⟩, .inr ⟨rfl, fun b hb => .inr (by rw [show b = _ from hb]; exact ⟨Nat.le_refl _, .inr rfl⟩)⟩, fun j hj => ?_⟩
    show j < (c.w.drew.alloc _).heap.size
    rw [hsize]
    rcases hj with h | h
    ·have := hwf j h; omega
    ·omega
   have hle : Le c c' := htr.le fun b hb => (hown b hb).1
   refine ⟨c', (only c.w.heap.size), rfl, htr, ?_, fun _ => ?_⟩
   ·simp only [slAt, VE.at, upd_eq]
    exact ⟨rfl, by rw [e1]; rfl⟩
   ·simp only [VR.at, upd_eq]
    refine ⟨hll, .inr ⟨c.w.heap.size, cap', _, by rw [hml]; exact e1, rfl, by omega, e3, heap_alloc_new c.w.drew _, ?_, ?_⟩⟩
    ·simp only [Array.size_append, List.size_toArray, htl, hnl, e5, List.length_map, List.length_take]
     omega
    ·have e : (cur.toList.take (i * 1)).toArray ++ nsv.toArray ++ rest = (cur.toList.take (i * 1) ++ nsv ++ rest.toList).toArray := by
      apply Array.ext'; simp
     rw [e, List.map_append]
     exact (CL_append hcl hnCL htl (by rw [hnl, List.length_map, List.length_drop]; omega)).st hle
end ops
end Go.Bn
