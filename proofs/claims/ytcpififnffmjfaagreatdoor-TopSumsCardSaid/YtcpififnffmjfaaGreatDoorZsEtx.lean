/-
 Functions that hand their caller's memory back changed; layers of expansions.
-/
import Derived.Test.YtcpififnffmjfaaGreatDoorZsEfx
import Derived.Test.YtcpififnffmjfaaGreatDoorZsAna
import Derived.Test.YtcpififnffmjfaaGreatDoorZsSeg
set_option linter.unusedVariables false
set_option linter.unusedSimpArgs false
namespace Go.Bn
open Go
section callsX
variable {P : Program} {n : Nat} {ops : Array Oper} {Γ : Facts} {ρ : Env} {δ : VEnv} {τ : List VR}
variable {d : Nat} {ty : TypeId} {pos : String} {af : Array Edge}
def RetX (c0 : EW) (ob : Bs) (R : SP) (r' : Res) (e : Ending) (w' : World) : Prop := ∃ v, ∃ c' : EW, ∃ ob' : Bs, e = .returned v ∧ w' = c'.w ∧ Tr c0 ob true c' ob' ∧ R.H v c' ∧ r'.H c' ob'
def CtX (P : Program) (f : Nat) (ps : List SP) (r : Res) (R : SP) (r' : Res) : Prop :=
 Has P f ∧ ∀ (vs : List Value) (c : EW) (ob : Bs), (∀ k, c.M k → k < c.w.heap.size) → FG c ∧ HL ps vs c → r.H c ob → (∀ b, ob b → c.M b) → Calls P f vs.toArray c.w (RetX c ob R r')
theorem op_callX {f : Nat} {xs : List Operand} {ps : List SP} {R : SP} {r r' : Res} {ats : Array TypeId} (k : Nat) (hf : CtX P f ps r R r') (hx : LkL Γ δ ρ xs ps) (hk : nth τ k = some (.c r)) :
  OpOK P n ops Γ ρ δ τ ⟨some d, .call ⟨.value (.func f), xs.toArray, ats⟩, ty, pos, af, none⟩ (.wr k) (.c R) (.c r') := by
 intro a c ob hs hwf hfa hr hres hno hown
 obtain ⟨r0, hr0, hh⟩ := hres k rfl
 rw [hk] at hr0
 cases hr0
 have hv := hx.val (a := a) (c := c) fun x q hx' hq => Lk.val (o := ⟨some d, .call ⟨.value (.func f), xs.toArray, ats⟩, ty, pos, af, none⟩) hr hfa (by simp [Op.operands, Call.operands, hx']) hq
 simp only [Region.wanted, if_true]
 unfold Does
 have hex : (execOp a.eval ⟨some d, .call ⟨.value (.func f), xs.toArray, ats⟩, ty, pos, af, none⟩).run P c.w = .ok (.enter f (xs.map a.eval).toArray) c.w := by
  have h1 := run_callFunc hf.1 (xs.map a.eval).toArray c.w
  simp [execOp, resolve, Deferred.ofValue, Act.eval, invoke, h1]
 rw [hex]
 exact (hf.2 _ c ob hwf ⟨hfa.2, hv⟩ hh fun b hb => (hown b hb).1).mono fun e w' ⟨v, c', ob', he, hw, ht, hR, hr'⟩ => ⟨v, he, c', ob', hw.symm, ht, hR, fun _ => hr'⟩
theorem CtX.of {f : Nat} {fn : Func} {k : Code} {ps : List SP} {R : SP} {r r' : Res} (hf : P.funcs[f]? = some fn) (hb : fn.body = some k) (hn : (fn.name == "runtime.NumGoroutine") = false) (hl : Nat.ble ps.length fn.ntmps = true)
  (h : ∀ (c0 : EW) (ob : Bs), r.H c0 ob → J ⟨P, fn.ntmps, c0, fun b => ob b⟩ [] (argEnv 0 ps) [r] k (bodyPost P fn (RetX c0 ob R r'))) : CtX P f ps r R r' := by
 refine ⟨⟨fn, hf, hn, by rw [hb]; rfl⟩, fun vs c ob hwf ⟨hg, hv⟩ hr hM => ?_⟩
 have hl' : ps.length ≤ fn.ntmps := Nat.le_of_ble_eq_true hl
 have hlen := hv.len
 refine calls_of_wp hf hb (h c ob hr _ c ⟨?_, rfl, ⟨fun v p hm => (by cases hm), hg⟩, fun t p hp => ?_, fun k => if k = 0 then ob else nob, ?_, fun k r0 hr0 => ?_⟩)
 ·simp; omega
 ·obtain ⟨_, hp'⟩ := argEnv_get hp
  rw [Nat.sub_zero] at hp'
  obtain ⟨v, h1, h2⟩ := hv.nth t p hp'
  have ht := (List.getElem?_eq_some_iff.1 h1).1
  have : vl { tmps := vs.toArray ++ Array.replicate (fn.ntmps - vs.toArray.size) undef, defers := [] } t = v := by
   unfold vl
   simp only [Array.getD_eq_getD_getElem?]
   rw [Array.getElem?_append_left (by simpa using ht)]
   simp [h1]
  rw [this]
  exact h2
 ·refine ⟨rfl, rfl, rfl, Nat.le_refl _, fun _ _ _ => rfl, fun _ _ => ⟨id, .inl⟩, hwf, fun k b hb => ?_, fun i j b hi hj => ?_, hwf⟩
  ·by_cases hk : k = 0
   ·rw [if_pos hk] at hb; exact ⟨hM b hb, .inr hb⟩
   ·rw [if_neg hk] at hb; cases hb
  ·by_cases hi0 : i = 0
   ·by_cases hj0 : j = 0
    ·rw [hi0, hj0]
    ·rw [if_neg hj0] at hj; cases hj
   ·rw [if_neg hi0] at hi; cases hi
 ·cases k with
  | zero => simp only [nth, Option.some.injEq] at hr0; subst hr0; simpa using hr
  | succ k => simp [nth] at hr0
theorem JN_retX {σ : List Res} {fn : Func} {n : Nat} {c0 : EW} {ob : Bs} {R : SP} {r' : Res} {ps : List SP} (j : Nat) (hj : nth σ j = some r') (hr : RVL P Γ ρ σ fn.results.toList ps) (hR : ∀ v c, FH Γ c → (resP ps).H v c → R.H v c) :
  JN ⟨P, n, c0, fun b => ob b⟩ Γ ρ σ (bodyPost P fn (RetX c0 ob R r') .ret) := fun a c hs => by
 obtain ⟨vs, h1, h2⟩ := hr.run hs
 obtain ⟨obs, hown, hres⟩ := hs.own
 have hrj := hres j r' hj
 have ht : Tr c0 ob true c (obs j) := ⟨hown.os, hown.tape, hown.out, hown.size, fun k hk hne => hown.heap k hk (hne rfl), fun k hk => ⟨(hown.mem k hk).1, fun h => by
  by_cases hm : c.M k
  ·exact .inl hm
  ·exact .inr ⟨rfl, ((hown.mem k hk).2 h).resolve_left hm, fun h9 => hm (hown.has j k h9).1⟩⟩, .inr ⟨rfl, fun b hb => (hown.has j b hb).2.elim (fun h => .inr ⟨h, (hown.has j b hb).1⟩) .inl⟩, hown.wf⟩
 refine ⟨hs.defers, _, run_results h1, _, c, obs j, rfl, rfl, ht, hR _ _ hs.facts ?_, hrj⟩
 match ps, vs, h2 with
 | [], [], h3 => exact ⟨[], rfl, trivial⟩
 | [p], [v], h3 => exact h3.1
 | p :: q :: ps, v :: u :: vs, h3 =>
  refine ⟨v :: u :: vs, ?_, h3⟩
  rw [dif_neg (by simp)]
 | [], _ :: _, h3 => exact h3.elim
 | _ :: _, [], h3 => exact h3.elim
 | [_], _ :: _ :: _, h3 => exact h3.2.elim
 | _ :: _ :: _, [_], h3 => exact h3.2.elim
end callsX
def layR (u : Value) (L : List Nat) (T TF : TypeId) : Res := exR fun sv : Value => (blk u [isv sv, isv (.bool false)] T).sep (som sv flp L TF)
theorem lay_close {u sv : Value} {L : List Nat} {T TF : TypeId} : ∀ c ob, ((blk u [isv sv, isv (.bool false)] T).sep (som sv flp L TF)).H c ob → (layR u L T TF).H c ob := fun c ob h => ⟨sv, h⟩
def layF (L : List Nat) (h : Nat) : List Nat := if fcmp .neq h 0 = true then L ++ [h] else L
theorem layF_len (L : List Nat) (h : Nat) : (layF L h).length ≤ L.length + 1 := by unfold layF; split <;> simp
theorem layF_1 {L : List Nat} {h : Nat} (e : fcmp .neq h 0 = true) : layF L h = L ++ [h] := if_pos e
theorem layF_0 {L : List Nat} {h : Nat} (e : fcmp .neq h 0 = false) : layF L h = L := if_neg (by rw [e]; decide)
def growS (e : List Nat) (b : Nat) : Nat → List Nat × Nat
 | 0 => ([], b)
 | i + 1 => (layF (growS e b i).1 (twoE (growS e b i).2 (e.getD i 0)), twoS (growS e b i).2 (e.getD i 0))
def growR (e : List Nat) (b : Nat) : List Nat := layF (growS e b e.length).1 (growS e b e.length).2
def elA (l : List Nat) (k : Nat) : Nat := l.getD ((l.length : Int) - 2 - (k : Int)).toNat 0
def elL (A : List Nat) (k : Nat) : Nat := A.getD ((A.length : Int) - 1 - (k : Int)).toNat 0
def cmpA (l : List Nat) : Nat → List Nat × Nat
 | 0 => ([], l.getD ((l.length : Int) - 1).toNat 0)
 | k + 1 => if fcmp .neq (quiE (cmpA l k).2 (elA l k)) 0 = true then ((cmpA l k).1 ++ [twoS (cmpA l k).2 (elA l k)], quiE (cmpA l k).2 (elA l k)) else ((cmpA l k).1, twoS (cmpA l k).2 (elA l k))
theorem cmpA_1 {l : List Nat} {k : Nat} (h : fcmp .neq (quiE (cmpA l k).2 (elA l k)) 0 = true) : cmpA l (k + 1) = ((cmpA l k).1 ++ [twoS (cmpA l k).2 (elA l k)], quiE (cmpA l k).2 (elA l k)) := if_pos h
theorem cmpA_0 {l : List Nat} {k : Nat} (h : fcmp .neq (quiE (cmpA l k).2 (elA l k)) 0 = false) : cmpA l (k + 1) = ((cmpA l k).1, twoS (cmpA l k).2 (elA l k)) := if_neg (by rw [h]; decide)
def cmpL (A : List Nat) (q : Nat) : Nat → List Nat × Nat
 | 0 => ([], q)
 | k + 1 => (layF (cmpL A q k).1 (quiE (elL A k) (cmpL A q k).2), twoS (elL A k) (cmpL A q k).2)
def cmpR (l : List Nat) : List Nat := if l.length = 0 then [] else layF (cmpL (cmpA l (l.length - 1)).1 (cmpA l (l.length - 1)).2 (cmpA l (l.length - 1)).1.length).1 (cmpL (cmpA l (l.length - 1)).1 (cmpA l (l.length - 1)).2 (cmpA l (l.length - 1)).1.length).2
theorem cmpR_0 {l : List Nat} (h : l.length = 0) : cmpR l = [] := if_pos h
theorem cmpR_1 {l : List Nat} {k : Nat} (h : ¬ l.length = 0) (hk : k = (cmpA l (l.length - 1)).1.length) : cmpR l = layF (cmpL (cmpA l (l.length - 1)).1 (cmpA l (l.length - 1)).2 k).1 (cmpL (cmpA l (l.length - 1)).1 (cmpA l (l.length - 1)).2 k).2 := by rw [hk]; exact if_neg h
theorem grow_len (e : List Nat) (b : Nat) : ∀ i, (growS e b i).1.length ≤ i
 | 0 => Nat.le_refl _
 | i + 1 => Nat.le_trans (layF_len _ _) (by have := grow_len e b i; omega)
theorem cmpA_len (l : List Nat) : ∀ k, (cmpA l k).1.length ≤ k
 | 0 => Nat.le_refl _
 | k + 1 => by
  have := cmpA_len l k
  show (if _ then _ else _ : List Nat × Nat).1.length ≤ _
  split
  ·rw [List.length_append]; simp; omega
  ·exact Nat.le_trans this (by omega)
theorem cmpL_len (A : List Nat) (q : Nat) : ∀ k, (cmpL A q k).1.length ≤ k
 | 0 => Nat.le_refl _
 | k + 1 => Nat.le_trans (layF_len _ _) (by have := cmpL_len A q k; omega)
end Go.Bn
namespace Go.Bn
open Go
def absE (x : Nat) : Nat := if fcmp .lss x 0 = true then fneg x else x
def lastE (x : Nat) : Nat := mdW false 1 (oddE (mgn x) (plc x))
theorem md_one {x : Nat} (hf : finB x = true) (hx : x < 2 ^ 64) : MdH 1 (oddE (mgn x) (plc x)) := by
 have h1 := plc_ge x
 have h2 := plc_le ((finB_iff hx).1 hf)
 have h3 := mgn_lt x
 have hE : -1074 ≤ oddE (mgn x) (plc x) ∧ oddE (mgn x) (plc x) ≤ 1023 := by
  unfold oddE
  split
  ·omega
  ·rename_i h0
   have h4 := tz_pow (mgn x) h0
   have h5 : tz (mgn x) ≤ 52 := by
    apply Classical.byContradiction
    intro hc
    have : (2 : Nat) ^ 53 ≤ 2 ^ tz (mgn x) := Nat.pow_le_pow_right (by decide) (by omega)
    have e : (2 : Nat) ^ 53 = 9007199254740992 := by decide
    omega
   omega
 have ho : oddM 1 = 1 := by decide +kernel
 have hb : bl 1 = 1 := by decide +kernel
 have ht : tz 1 = 0 := by decide +kernel
 refine ⟨by decide, by rw [ho, hb]; decide, hE.1, by omega, fun _ => ?_⟩
 rw [oddE_ge (by decide), ho, hb, ht]
 omega
structure IsH (l : List Nat) : Prop where
 hl : l.length ≤ 64
 hf : ∀ k, k < l.length → finB (l.getD k 0) = true
 hi : ∀ i : Nat, i < l.length → (fcmp .eql (l.getD (i : Int).toNat 0) 0 || (cmpB .gtr (i : Int) 0 && fcmp .geq (absE (l.getD ((i : Int) - 1).toNat 0)) (lastE (l.getD (i : Int).toNat 0)))) = false
theorem IsH.all {l : List Nat} (h : IsH l) : l.all finB = true := by
 rw [List.all_eq_true]
 intro x hx
 obtain ⟨k, hk, he⟩ := List.getElem_of_mem hx
 have := h.hf k hk
 rw [List.getD_eq_getElem?_getD, List.getElem?_eq_getElem hk] at this
 simpa [he] using this
structure GrH (e : List Nat) (b : Nat) : Prop where
 is : IsH e
 hb : finB b = true
 hl : e.length ≤ 60
 hg : ∀ i, i < e.length → finB (twoS (growS e b i).2 (e.getD i 0)) = true ∧ finB (twoE (growS e b i).2 (e.getD i 0)) = true
structure CpH (l : List Nat) : Prop where
 is : IsH l
 ha : ∀ k, k < l.length - 1 → finB (twoS (cmpA l k).2 (elA l k)) = true ∧ finB (quiE (cmpA l k).2 (elA l k)) = true
 hb : ∀ k, k < (cmpA l (l.length - 1)).1.length → finB (twoS (elL (cmpA l (l.length - 1)).1 k) (cmpL (cmpA l (l.length - 1)).1 (cmpA l (l.length - 1)).2 k).2) = true ∧ finB (quiE (elL (cmpA l (l.length - 1)).1 k) (cmpL (cmpA l (l.length - 1)).1 (cmpA l (l.length - 1)).2 k).2) = true
def sgnE (x : Nat) : Int := if fcmp .lss x 0 = true then -1 else if fcmp .gtr x 0 = true then 1 else 0
def signE (l : List Nat) : Int := if l.length = 0 then 0 else sgnE (l.getD ((l.length : Int) - 1).toNat 0)
theorem signE_0 {l : List Nat} (h : l.length = 0) : signE l = 0 := if_pos h
theorem signE_1 {l : List Nat} (h : ¬ l.length = 0) : signE l = sgnE (l.getD ((l.length : Int) - 1).toNat 0) := if_neg h
end Go.Bn
