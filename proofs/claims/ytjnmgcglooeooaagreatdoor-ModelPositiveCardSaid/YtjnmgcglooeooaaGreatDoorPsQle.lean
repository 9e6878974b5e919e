/-
 Fractions in memory: what the steps with them come to.
-/
import Derived.Test.YtjnmgcglooeooaaGreatDoorPsRac
import Derived.Test.YtjnmgcglooeooaaGreatDoorPsSeg
set_option linter.unusedVariables false
set_option linter.unusedSimpArgs false
namespace Go.Bn
open Go
theorem rat_cells {b : Bool} {n d : Nat} {q : Rat} (h1 : q.num = sgnI b n) (h2 : q.den = d) :
  [isv (.bool (decide (sgnI b (magI (limbs n)).toNat < 0))), ils .u32 (limbs (sgnI b (magI (limbs n)).toNat).natAbs), isv (.bool (decide (sgnI false (magI (limbs d)).toNat < 0))), ils .u32 (limbs (sgnI false (magI (limbs d)).toNat).natAbs)] = ratC q := by
 have e : decide (sgnI false d < 0) = false := by unfold sgnI; simp
 have e2 : (sgnI false d).natAbs = d := sgnI_abs _ _
 show _ = [isv (.bool (decide (q.num < 0))), ils .u32 (limbs q.num.natAbs), isv (.bool false), ils .u32 (limbs q.den)]
 rw [mag_nat, mag_nat, h1, h2, e, e2]
theorem sgnI_zero (b : Bool) : sgnI b 0 = 0 := by cases b <;> rfl
theorem mk_zero (b : Bool) (B : Nat) : (mkRat (sgnI b 0) B).num = 0 ∧ (mkRat (sgnI b 0) B).den = 1 := by
 rw [sgnI_zero, Rat.zero_mkRat]
 exact ⟨rfl, rfl⟩
structure Rsz (n : Nat) (q : Rat) : Prop where
 a : ((q.num.natAbs : Nat) : Int) < wpw n
 b : ((q.den : Nat) : Int) < wpw n
theorem wpw_mul {a b n m k : Nat} (h1 : (a : Int) < wpw n) (h2 : (b : Int) < wpw m) (hk : n + m ≤ k) : ((a * b : Nat) : Int) < wpw k := by
 have h3 := wpw_mono hk
 rw [wpw_add] at h3
 have h4 : (a : Int) * b ≤ (a : Int) * wpw m := Int.mul_le_mul_of_nonneg_left (by omega) (by omega)
 have h5 : (a : Int) * wpw m < wpw n * wpw m := Int.mul_lt_mul_of_pos_right h1 (by have := wpw_pos m; omega)
 rw [Int.natCast_mul]
 omega
theorem Rsz.mono {n m : Nat} {q : Rat} (h : Rsz n q) (hm : n ≤ m) : Rsz m q := by
 have := wpw_mono hm
 have h1 := h.a
 have h2 := h.b
 exact ⟨by omega, by omega⟩
theorem sml_n {x : Nat} (h : (x : Int) < wpw 4000) : Sml (x : Int) := ⟨by simpa using h⟩
theorem Rsz.len {n : Nat} {q : Rat} (h : Rsz n q) (hn : n ≤ 4000) : (limbs q.num.natAbs).length ≤ 4000 ∧ (limbs q.den).length ≤ 4000 :=
 ⟨Nat.le_trans (limbs_len h.a) hn, Nat.le_trans (limbs_len h.b) hn⟩
theorem rsz_mk {b : Bool} {A B n : Nat} (hB : B ≠ 0) (h1 : (A : Int) < wpw n) (h2 : (B : Int) < wpw n) : Rsz n (mkRat (sgnI b A) B) := by
 obtain ⟨e1, e2⟩ := mkr_parts b (A := A) hB
 have g1 := Nat.div_le_self A (Nat.gcd A B)
 have g2 := Nat.div_le_self B (Nat.gcd A B)
 refine ⟨?_, ?_⟩
 ·rw [e1, sgnI_abs]; omega
 ·rw [e2]; omega
theorem tim_nat (x y : Nat) : (magI (limbs x) * magI (limbs y)).toNat = x * y := mag_mul x y
theorem rat_mul (x y : Rat) : mkRat (sgnI (decide (x.num < 0) != decide (y.num < 0)) (x.num.natAbs * y.num.natAbs)) (x.den * y.den) = x * y := by
 rw [mul_1, Rat.mul_def, Rat.normalize_eq_mkRat]
theorem sgn_quo {a c : Int} {b : Nat} : sgnI (decide (a < 0) != decide (c < 0)) (a.natAbs * b) * c = a * b * (c.natAbs : Int) := by
 unfold sgnI
 rw [Int.natCast_mul]
 by_cases ha : a < 0 <;> by_cases hc : c < 0 <;> simp [ha, hc]
 ·rw [show (a.natAbs : Int) = -a by omega, show (c.natAbs : Int) = -c by omega]; grind
 ·rw [show (a.natAbs : Int) = -a by omega, show (c.natAbs : Int) = c by omega]; grind
 ·rw [show (a.natAbs : Int) = a by omega, show (c.natAbs : Int) = -c by omega]; grind
 ·rw [show (a.natAbs : Int) = a by omega, show (c.natAbs : Int) = c by omega]
theorem rat_quo {x y : Rat} (hy : y ≠ 0) : mkRat (sgnI (decide (x.num < 0) != decide (y.num < 0)) (x.num.natAbs * y.den)) (x.den * y.num.natAbs) = x / y := by
 have h0 : y.num ≠ 0 := fun e => hy (Rat.num_eq_zero.1 e)
 have h1 : x.den ≠ 0 := x.den_nz
 rw [Rat.div_def, Rat.inv_def, ← Rat.divInt_ofNat]
 conv => rhs; lhs; rw [← Rat.num_divInt_den x]
 rw [Rat.divInt_mul_divInt]
 have e2 : ((x.den * y.num.natAbs : Nat) : Int) = (x.den : Int) * (y.num.natAbs : Int) := Int.natCast_mul ..
 refine (Rat.divInt_eq_divInt_iff ?_ ?_).2 ?_
 ·exact_mod_cast Nat.mul_ne_zero h1 (by omega)
 ·exact Int.mul_ne_zero (by omega) h0
 ·rw [e2]
  have e3 := @sgn_quo x.num y.num y.den
  generalize sgnI (decide (x.num < 0) != decide (y.num < 0)) (x.num.natAbs * y.den) = S at *
  grind
theorem rat_sub (x y : Rat) : mkRat (sgnI (decide (x.num * y.den - y.num * x.den < 0)) (x.num * y.den - y.num * x.den).natAbs) (x.den * y.den) = x - y := by
 rw [set_1, Rat.sub_def']
theorem crs_eq (x y : Rat) : [isv (.bool (decide (x.num < 0))), ils .u32 (limbs (magI (limbs x.num.natAbs) * magI (limbs y.den)).toNat)] = intC (x.num * y.den) := by
 have h1 : (0 : Int) < y.den := by have := y.den_pos; omega
 have e : decide (x.num * y.den < 0) = decide (x.num < 0) := by
  refine decide_eq_decide.2 ⟨fun h => ?_, fun h => ?_⟩
  ·exact Classical.byContradiction fun hc => by
    have := Int.mul_nonneg (show 0 ≤ x.num by omega) (show (0 : Int) ≤ y.den by omega)
    omega
  ·exact Int.mul_neg_of_neg_of_pos h h1
 show _ = [isv (.bool (decide (x.num * y.den < 0))), ils .u32 (limbs (x.num * y.den).natAbs)]
 rw [tim_nat, e, Int.natAbs_mul, Int.natAbs_natCast]
def cmpZ (a b : Int) : Int := if a < b then -1 else if b < a then 1 else 0
theorem cmpZ_rat (x y : Rat) : cmpZ (x.num * y.den) (y.num * x.den) = 0 ↔ x = y := by
 have h : (x.num * y.den = y.num * x.den) ↔ x = y := by
  constructor
  ·intro e
   rw [← Rat.mkRat_self x, ← Rat.mkRat_self y]
   exact (Rat.mkRat_eq_iff x.den_nz y.den_nz).2 e
  ·intro e; rw [e]
 rw [← h]
 unfold cmpZ
 split
 ·omega
 ·split <;> omega
theorem cmpZ_1 {x y : Int} (h : (decide (x < 0) != decide (y < 0)) = true) : cmpZ x y = if x < 0 then -1 else 1 := by
 unfold cmpZ
 by_cases hx : x < 0 <;> by_cases hy : y < 0 <;> simp [hx, hy] at h ⊢ <;> omega
theorem cmpZ_2 {x y : Int} (h : (decide (x < 0) != decide (y < 0)) = false) : cmpZ x y = if x < 0 then -cmpN x.natAbs y.natAbs else cmpN x.natAbs y.natAbs := by
 unfold cmpZ cmpN
 by_cases hx : x < 0 <;> by_cases hy : y < 0 <;> simp [hx, hy] at h ⊢
 ·by_cases h1 : x < y
  ·rw [if_pos h1, if_neg (by omega), if_pos (by omega)]
  ·by_cases h2 : y < x
   ·rw [if_neg h1, if_pos h2, if_pos (by omega)]; rfl
   ·rw [if_neg h1, if_neg h2, if_neg (by omega), if_neg (by omega)]; rfl
 ·by_cases h1 : x < y
  ·rw [if_pos h1, if_pos (by omega)]
  ·by_cases h2 : y < x
   ·rw [if_neg h1, if_pos h2, if_neg (by omega), if_pos (by omega)]
   ·rw [if_neg h1, if_neg h2, if_neg (by omega), if_neg (by omega)]
theorem sml_abs {x : Int} (h : Sml x) : Sml ((x.natAbs : Nat) : Int) := ⟨by have := h.h; simpa using this⟩
theorem sml_1 : Sml ((1 : Nat) : Int) := sml_of (by decide)
theorem tim_sml {a b n m : Nat} (h1 : (a : Int) < wpw n) (h2 : (b : Int) < wpw m) (hk : n + m ≤ 4000) : Sml (((magI (limbs a) * magI (limbs b)).toNat : Nat) : Int) := sml_n (by rw [tim_nat]; exact wpw_mul h1 h2 hk)
theorem tim_ne {a b : Nat} (h1 : a ≠ 0) (h2 : b ≠ 0) : (magI (limbs a) * magI (limbs b)).toNat ≠ 0 := by rw [tim_nat]; exact Nat.mul_ne_zero h1 h2
theorem sub_sml {x y : Rat} (hx : Rsz 900 x) (hy : Rsz 3000 y) : Sml (x.num * y.den) ∧ Sml (y.num * x.den) ∧ Sml (x.num * y.den - y.num * x.den) := by
 have h1 := wpw_mul hx.a hy.b (show 900 + 3000 ≤ 3900 by omega)
 have h2 := wpw_mul hy.a hx.b (show 3000 + 900 ≤ 3900 by omega)
 have h3 := wpw_mono (show 3901 ≤ 4000 by omega)
 rw [show 3901 = 3900 + 1 from rfl, wpw_succ] at h3
 have h0 := wpw_pos 3900
 have e1 : (x.num * y.den).natAbs = x.num.natAbs * y.den := by rw [Int.natAbs_mul, Int.natAbs_natCast]
 have e2 : (y.num * x.den).natAbs = y.num.natAbs * x.den := by rw [Int.natAbs_mul, Int.natAbs_natCast]
 rw [← e1] at h1
 rw [← e2] at h2
 exact ⟨⟨by omega⟩, ⟨by omega⟩, ⟨by omega⟩⟩
end Go.Bn
namespace Go.Bn
open Go
def SNI (p : SP) : Prop := ∀ v c, p.H v c → ∀ (k : IntKind) (z : Int), v ≠ Value.int k z
def NoI (r : Res) : Prop := ∀ c ob, r.H c ob → ∀ b, ob b → ∃ cur T fz, c.w.heap[b]? = some (.cells cur T fz) ∧ ∀ (i : Nat) (k : IntKind) (z : Int), cur[i]? ≠ some (Value.int k z)
theorem sni_bool (b : Bool) : SNI (isv (.bool b)) := fun v c h k z e => by rw [h.1] at e; cases e
theorem sni_ils {k : IntKind} {l : List Int} : SNI (ils k l) := fun v c h k z e => by
 rcases h.2 with ⟨h1, _⟩ | ⟨ad, cap, h1, _⟩ <;> (rw [h1] at e; cases e)
theorem noi_blk {u : Value} {cells : List SP} {T : TypeId} (h : ∀ i p, nth cells i = some p → SNI p) : NoI (blk u cells T) := fun c ob ⟨b, cur, h1, h2, h3, h4, h5⟩ b' hb => by
 rw [of1 h2 hb]
 refine ⟨cur, T, _, h3, fun i k z hi => ?_⟩
 have hl : i < cells.length := by
  have := (Array.getElem?_eq_some_iff.1 hi).1
  omega
 obtain ⟨p, hp⟩ : ∃ p, nth cells i = some p := ⟨cells[i], by rw [nth_eq]; exact List.getElem?_eq_getElem hl⟩
 obtain ⟨x, g1, _, g3⟩ := h5 i p hp
 rw [Nat.zero_add, hi] at g1
 cases g1
 exact h i p hp _ _ g3 k z rfl
theorem noi_rat {u : Value} {q : Rat} {T : TypeId} : NoI (blk u (ratC q) T) := noi_blk fun i p hp => by
 match i, hp with
 | 0, hp => simp only [nth, Option.some.injEq] at hp; subst hp; exact sni_bool _
 | 1, hp => simp only [nth, Option.some.injEq] at hp; subst hp; exact sni_ils
 | 2, hp => simp only [nth, Option.some.injEq] at hp; subst hp; exact sni_bool _
 | 3, hp => simp only [nth, Option.some.injEq] at hp; subst hp; exact sni_ils
 | _ + 4, hp => simp [nth] at hp
theorem noi_emp : NoI Go.Bn.emp := fun c ob h b hb => by
 have h : ob = nob := h
 rw [h] at hb; cases hb
theorem noi_pool {n : Nat} {f : Nat → Res} (h : ∀ i, i < n → NoI (f i)) : NoI (pool n f) := fun c ob ⟨os, h1, _, h3⟩ b hb => by
 obtain ⟨i, hi, hbi⟩ := (h1 b).1 hb
 exact h i hi c (os i) (h3 i hi) b hbi
theorem ils_off {rp : Res} (h : NoI rp) {c : EW} {ob : Bs} {w' : World} {M : Nat → Prop} {v : Value} {xs : List Int} {k : IntKind} (hr : rp.H c ob) (hh : ∀ b, ob b → w'.heap[b]? = c.w.heap[b]?) (hv : (ils k xs).H v ⟨w', fun b => M b ∧ ¬ ob b⟩) : (ils k xs).H v ⟨w', M⟩ := by
 obtain ⟨h0, hv⟩ := hv
 refine ⟨h0, hv.imp id ?_⟩
 rintro ⟨ad, cap, h1, h2, h3, h4⟩
 refine ⟨ad, cap, h1, h2, h3, ?_⟩
 rcases h4 with h4 | ⟨b, off, e, hm, cur, T, fz, g1, g2⟩
 ·exact .inl h4
 by_cases hn : (xs.map (inp k)).length = 0
 ·exact .inl hn
 refine .inr ⟨b, off, e, fun hMb => ?_, cur, T, fz, g1, fun i p hp => ?_⟩
 ·have hob : ob b := Classical.byContradiction fun hc => hm ⟨hMb, hc⟩
  obtain ⟨cur', T', fz', q1, q2⟩ := h c ob hr b hob
  have g1' : c.w.heap[b]? = some (.cells cur T fz) := (hh b hob).symm.trans g1
  rw [q1] at g1'
  cases g1'
  cases xs with
  | nil => exact absurd rfl hn
  | cons x xs =>
   obtain ⟨u, p1, _, p3⟩ := g2 0 (inp k x) rfl
   exact q2 _ k x (by rw [p1, p3.1])
 ·obtain ⟨u, p1, p2, p3⟩ := g2 i p hp
  refine ⟨u, p1, p2, ?_⟩
  rw [nth_eq, List.getElem?_map] at hp
  cases hx : xs[i]? with
  | none => rw [hx] at hp; cases hp
  | some x => rw [hx] at hp; simp only [Option.map_some, Option.some.injEq] at hp; subst hp; exact p3
theorem rat_off {rp : Res} (h : NoI rp) {u : Value} {q : Rat} {T : TypeId} {c : EW} {ob : Bs} {w' : World} {M : Nat → Prop} {o1 : Bs} (hr : rp.H c ob) (hh : ∀ b, ob b → w'.heap[b]? = c.w.heap[b]?) (hv : (blk u (ratC q) T).H ⟨w', fun b => M b ∧ ¬ ob b⟩ o1) : (blk u (ratC q) T).H ⟨w', M⟩ o1 := by
 obtain ⟨b, cur, h1, h2, h3, h4, h5⟩ := hv
 refine ⟨b, cur, h1, h2, h3, h4, fun i p hp => ?_⟩
 obtain ⟨x, g1, g2, g3⟩ := h5 i p hp
 refine ⟨x, g1, g2, ?_⟩
 match i, hp with
 | 0, hp => simp only [nth, Option.some.injEq] at hp; subst hp; exact g3
 | 1, hp => simp only [nth, Option.some.injEq] at hp; subst hp; exact ils_off h hr hh g3
 | 2, hp => simp only [nth, Option.some.injEq] at hp; subst hp; exact g3
 | 3, hp => simp only [nth, Option.some.injEq] at hp; subst hp; exact ils_off h hr hh g3
 | _ + 4, hp => simp [nth] at hp
theorem lent_isv {u : Value} {cells : List SP} {T : TypeId} : Lent (blk u cells T) (isv u) (ptp cells) := fun c c1 ob v h hq hle hob => by
 rw [hq.1]; exact frz_blk c c1 ob h hle hob
theorem lent_pool {n : Nat} {f : Nat → Res} {i : Nat} {q p : SP} (hi : i < n) (h : Lent (f i) q p) : Lent (pool n f) q p := fun c c1 ob v ⟨os, h1, _, h3⟩ hq hle hob => h c c1 (os i) v (h3 i hi) hq hle fun b hb => hob b ((h1 b).2 ⟨i, hi, hb⟩)
def LendL (rp : Res) : List SP → List SP → Prop
 | [], [] => True
 | q :: qs, p :: ps => (q = p ∨ Lent rp q p) ∧ LendL rp qs ps
 | _, _ => False
theorem LendL.val {rp : Res} {c c1 : EW} {ob : Bs} (hr : rp.H c ob) (hle : Le c c1) (hob : ∀ b, ob b → c1.w.heap[b]? = c.w.heap[b]? ∧ ¬ c1.M b) : ∀ {qs ps : List SP} {vs : List Value}, LendL rp qs ps → HL qs vs c → HL ps vs c1
 | [], [], [], _, _ => trivial
 | q :: qs, p :: ps, v :: vs, ⟨h1, h2⟩, ⟨h3, h4⟩ => by
  refine ⟨?_, LendL.val hr hle hob h2 h4⟩
  rcases h1 with h1 | h1
  ·rw [← h1]; exact q.st _ _ _ hle h3
  ·exact h1 c c1 ob v hr h3 hle hob
 | [], _ :: _, _, h, _ => h.elim
 | _ :: _, [], _, h, _ => h.elim
 | [], [], _ :: _, _, h => h.elim
 | _ :: _, _ :: _, [], _, h => h.elim
theorem CtM.lend {P : Program} {f : Nat} {ps qs : List SP} {r r' rp : Res} {R : SP} (h : CtM P f ps r R r') (hl : LendL rp qs ps) (hR : R.Pure)
  (ho : ∀ c ob w' M o1, rp.H c ob → (∀ b, ob b → w'.heap[b]? = c.w.heap[b]?) → r'.H ⟨w', fun b => M b ∧ ¬ ob b⟩ o1 → r'.H ⟨w', M⟩ o1) : CtM P f qs (r.sep rp) R (r'.sep rp) := by
 refine ⟨h.1, fun vs c ob hwf ⟨hg, hv⟩ ⟨o1, o2, e, d, h1, h2⟩ hM => ?_⟩
 let c1 : EW := ⟨c.w, fun b => c.M b ∧ ¬ o2 b⟩
 have hle : Le c c1 := ⟨rfl, rfl, rfl, Nat.le_refl _, fun j _ hm => ⟨rfl, fun h => hm h.1⟩⟩
 have hv1 := hl.val h2 hle (fun b hb => ⟨rfl, fun h => h.2 hb⟩) hv
 refine (h.2 vs c1 o1 (fun j hj => hwf j hj.1) ⟨hg.le hle, hv1⟩ (r.fr c c1 o1 hle (fun _ _ => rfl) h1) fun b hb => ⟨hM b ((e b).2 (.inl hb)), fun hb2 => d b hb hb2⟩).mono fun en w' ⟨v, he, hxm, hR', hr'⟩ => ?_
 have heq : ∀ b, o2 b → w'.heap[b]? = c.w.heap[b]? := fun b hb => hxm.heap b (hwf b (hM b ((e b).2 (.inr hb)))) fun hb1 => d b hb1 hb
 have hle2 : Le c ⟨w', c.M⟩ := ⟨hxm.os, hxm.tape, hxm.out, hxm.size, fun k hk hm => ⟨hxm.heap k hk fun hb => hm (hM k ((e k).2 (.inl hb))), hm⟩⟩
 exact ⟨v, he, ⟨hxm.os, hxm.tape, hxm.out, hxm.size, fun k hk hn => hxm.heap k hk fun hb => hn ((e k).2 (.inl hb))⟩, hR _ _ _ hR', o1, o2, e, d, ho c o2 w' c.M o1 h2 heq hr', rp.fr c _ o2 hle2 heq h2⟩
theorem pure_ipo (u : Value) (o : Nat) : (ipo u o).Pure := fun _ _ _ h => h
def blkSep (s : Nat) (cells : List SP) (T : TypeId) (r : Res) : VR := .d [s] (fun f => (blk (f s) cells T).sep r) (fun f g h => by rw [h s (List.mem_singleton.2 rfl)])
section ops
variable {P : Program} {n : Nat} {ops : Array Oper} {Γ : Facts} {ρ : Env} {δ : VEnv} {τ : List VR}
variable {d : Nat} {ty : TypeId} {pos : String} {af : Array Edge}
theorem op_alloc_sep {T : TypeId} (k : Nat) {zs : List Value} {r : Res} (hz : zrT P T = some zs) (h1 : zs.all (·.oneCell') = true) (hk : nth τ k = some (.c r)) :
  OpOK P n ops Γ ρ δ τ ⟨some d, .alloc T, ty, pos, af, none⟩ (.wr k) (ptrAt d) (blkSep d (zs.map isv) T r) := by
 intro a c ob hs hwf hf hr hres hno hown
 obtain ⟨r0, hr0, hh⟩ := hres k rfl
 rw [hk] at hr0
 cases hr0
 have hh' : r.H c ob := hh
 simp only [Region.wanted, if_true]
 unfold Does
 unfold zrT at hz
 cases hi : P.info? T with
 | none => rw [hi] at hz; cases hz
 | some i =>
  rw [hi] at hz
  simp only [Option.bind_some] at hz
  cases hzz : i.zero with
  | none => rw [hzz] at hz; cases hz
  | some z =>
   rw [hzz] at hz
   simp only [Option.map_some, Option.some.injEq] at hz
   have hex : (execOp a.eval ⟨some d, .alloc T, ty, pos, af, none⟩).run P c.w = .ok (.value (.pointer (some ⟨c.w.heap.size, 0, none⟩))) (c.w.alloc (.cells z.cells T)) := by
    simp [execOp, Instr.alloc, zeroValue, typeInfo, hi, hzz, newVar, newRow]
   rw [hex]
   have hsz : z.cells.size = (zs.map isv).length := by rw [← hz]; simp
   have hcl : CL (zs.map isv) z.cells 0 ⟨c.w, c.M⟩ := fun i p hp => by
    rw [nth_eq, List.getElem?_map] at hp
    cases hu : zs[i]? with
    | none => rw [hu] at hp; cases hp
    | some u =>
     rw [hu] at hp
     cases hp
     have h1u : u.oneCell' = true := (List.all_eq_true.1 h1) u (List.mem_of_getElem? hu)
     refine ⟨u, ?_, h1u, rfl, h1u⟩
     rw [← hz, Array.getElem?_toList] at hu
     simpa using hu
   obtain ⟨h1, h2⟩ := new_blk (w := c.w) (M := c.M) hwf (T := T) hsz hcl
   have hle := h1.le (fun b hb => by cases hb)
   refine ⟨⟨c.w.alloc (.cells z.cells T), fun k => c.M k ∨ k = c.w.heap.size⟩, fun b => b = c.w.heap.size ∨ ob b, rfl, ⟨h1.os, h1.tape, h1.out, h1.size, fun j hj _ => h1.heap j hj (fun _ hb => by cases hb), fun j hj => ⟨(h1.mem j hj).1, fun e => .inl (.inl e)⟩, .inr ⟨rfl, fun b hb => ?_⟩, h1.lt⟩, ?_, fun _ => ?_⟩
   ·rcases hb with hb | hb
    ·subst hb; exact .inr ⟨Nat.le_refl _, .inr rfl⟩
    ·exact .inl hb
   ·simp only [ptrAt, VE.at, upd_eq]
    exact ⟨c.w.heap.size, .inl rfl, rfl⟩
   ·simp only [blkSep, VR.at, upd_eq]
    refine ⟨only c.w.heap.size, ob, fun b => Iff.rfl, fun b hb hb2 => ?_, h2, r.fr _ _ _ hle (fun b hb => h1.heap b (hown b hb).2 (fun _ hb => by cases hb)) hh'⟩
    have h9 : b = c.w.heap.size := hb
    have := (hown b hb2).2
    omega
theorem op_callSF {f s : Nat} {xs xs' : List Operand} {ps : List SP} {cells cells' : List SP} {T' : TypeId} {r : Res} {ats : Array TypeId} (k : Nat) (hy : getV δ ρ s = some (ptrAt s)) (hk : nth τ k = some (blkSep s cells T' r)) (hf : ∀ u : Value, CtM P f (ipo u 0 :: ps) ((blk u cells T').sep r) (ipo u 0) ((blk u cells' T').sep r)) (hxs : xs = .tmp s :: xs') (hx : LkL Γ δ ρ xs' ps) :
  OpOK P n ops Γ ρ δ τ ⟨some d, .call ⟨.value (.func f), xs.toArray, ats⟩, ty, pos, af, none⟩ (.wr k) (.c (ptp cells')) (.c r) := by
 intro a c ob hs hwf hfa hr hres hno hown
 obtain ⟨r0, hr0, hh⟩ := hres k rfl
 rw [hk] at hr0
 cases hr0
 have hh' : ((blk (vl a s) cells T').sep r).H c ob := hh
 have hp : (ipo (vl a s) 0).H (a.eval (.tmp s)) c := hr s (List.mem_append_left _ (List.mem_filterMap.2 ⟨.tmp s, by simp [Op.operands, Call.operands, hxs], rfl⟩)) _ hy
 have hv0 := hx.val (a := a) (c := c) fun x q hx' hq => Lk.val (o := ⟨some d, .call ⟨.value (.func f), xs.toArray, ats⟩, ty, pos, af, none⟩) hr hfa (by simp [Op.operands, Call.operands, hxs, hx']) hq
 have hv : HL (ipo (vl a s) 0 :: ps) (xs.map a.eval) c := by rw [hxs]; exact ⟨hp, hv0⟩
 simp only [Region.wanted, if_true]
 unfold Does
 have hex : (execOp a.eval ⟨some d, .call ⟨.value (.func f), xs.toArray, ats⟩, ty, pos, af, none⟩).run P c.w = .ok (.enter f (xs.map a.eval).toArray) c.w := by
  have h1 := run_callFunc (hf (vl a s)).1 (xs.map a.eval).toArray c.w
  simp [execOp, resolve, Deferred.ofValue, Act.eval, invoke, h1]
 rw [hex]
 refine ((hf (vl a s)).2 _ c ob hwf ⟨hfa.2, hv⟩ hh' fun b hb => (hown b hb).1).mono fun e w' ⟨v, he, hxm, hR, o1, o2, e1, d1, hb1, hr2⟩ => ?_
 let c' : EW := ⟨w', fun b => c.M b ∧ ¬ o1 b⟩
 have hle : Le ⟨w', c.M⟩ c' := ⟨rfl, rfl, rfl, Nat.le_refl _, fun j _ hm => ⟨rfl, fun h => hm h.1⟩⟩
 refine ⟨v, he, c', o2, rfl, ⟨hxm.os, hxm.tape, hxm.out, hxm.size, fun j hj hne => hxm.heap j hj (hne rfl), fun j hj => ⟨fun h => h.1, fun h => ?_⟩, .inr ⟨rfl, fun b hb => .inl ((e1 b).2 (.inr hb))⟩, fun j hj => Nat.lt_of_lt_of_le (hwf j hj.1) hxm.size⟩, ?_, fun _ => ?_⟩
 ·by_cases ho : o1 j
  ·exact .inr ⟨rfl, (e1 j).2 (.inl ho), fun h2 => d1 j ho h2⟩
  ·exact .inl ⟨h, ho⟩
 ·have hfz := frz_blk _ c' o1 hb1 hle fun b hb => ⟨rfl, fun h => h.2 hb⟩
  obtain ⟨b, cur, g1, g2, _⟩ := hb1
  obtain ⟨b', g3, g4⟩ := hR
  rw [g1] at g3
  have hvb : v = vl a s := by
   rw [g1]
   rcases g3 with g3 | ⟨_, _, g3⟩
   ·cases g3; exact g4
   ·cases g3
  show (ptp cells').H v c'
  rw [hvb]; exact hfz
 ·exact r.fr _ _ _ hle (fun _ _ => rfl) hr2
theorem op_callPF {f s : Nat} {xs xs' : List Operand} {ps : List SP} {cells cells' : List SP} {T' : TypeId} {ats : Array TypeId} (k : Nat) (hy : getV δ ρ s = some (ptrAt s)) (hk : nth τ k = some (blkAt s cells T')) (hf : ∀ u : Value, CtM P f (ipo u 0 :: ps) (blk u cells T') (ipo u 0) (blk u cells' T')) (hxs : xs = .tmp s :: xs') (hx : LkL Γ δ ρ xs' ps) :
  OpOK P n ops Γ ρ δ τ ⟨some d, .call ⟨.value (.func f), xs.toArray, ats⟩, ty, pos, af, none⟩ (.wr k) (.c (ptp cells')) (.c Go.Bn.emp) := by
 intro a c ob hs hwf hfa hr hres hno hown
 obtain ⟨r0, hr0, hh⟩ := hres k rfl
 rw [hk] at hr0
 cases hr0
 have hh' : (blk (vl a s) cells T').H c ob := hh
 have hp : (ipo (vl a s) 0).H (a.eval (.tmp s)) c := hr s (List.mem_append_left _ (List.mem_filterMap.2 ⟨.tmp s, by simp [Op.operands, Call.operands, hxs], rfl⟩)) _ hy
 have hv0 := hx.val (a := a) (c := c) fun x q hx' hq => Lk.val (o := ⟨some d, .call ⟨.value (.func f), xs.toArray, ats⟩, ty, pos, af, none⟩) hr hfa (by simp [Op.operands, Call.operands, hxs, hx']) hq
 have hv : HL (ipo (vl a s) 0 :: ps) (xs.map a.eval) c := by rw [hxs]; exact ⟨hp, hv0⟩
 simp only [Region.wanted, if_true]
 unfold Does
 have hex : (execOp a.eval ⟨some d, .call ⟨.value (.func f), xs.toArray, ats⟩, ty, pos, af, none⟩).run P c.w = .ok (.enter f (xs.map a.eval).toArray) c.w := by
  have h1 := run_callFunc (hf (vl a s)).1 (xs.map a.eval).toArray c.w
  simp [execOp, resolve, Deferred.ofValue, Act.eval, invoke, h1]
 rw [hex]
 refine ((hf (vl a s)).2 _ c ob hwf ⟨hfa.2, hv⟩ hh' fun b hb => (hown b hb).1).mono fun e w' ⟨v, he, hxm, hR, hb1⟩ => ?_
 let c' : EW := ⟨w', fun b => c.M b ∧ ¬ ob b⟩
 have hle : Le ⟨w', c.M⟩ c' := ⟨rfl, rfl, rfl, Nat.le_refl _, fun j _ hm => ⟨rfl, fun h => hm h.1⟩⟩
 refine ⟨v, he, c', nob, rfl, ⟨hxm.os, hxm.tape, hxm.out, hxm.size, fun j hj hne => hxm.heap j hj (hne rfl), fun j hj => ⟨fun h => h.1, fun h => ?_⟩, .inr ⟨rfl, fun b hb => by cases hb⟩, fun j hj => Nat.lt_of_lt_of_le (hwf j hj.1) hxm.size⟩, ?_, fun _ => rfl⟩
 ·by_cases ho : ob j
  ·exact .inr ⟨rfl, ho, fun h2 => by cases h2⟩
  ·exact .inl ⟨h, ho⟩
 ·have hfz := frz_blk _ c' ob hb1 hle fun b hb => ⟨rfl, fun h => h.2 hb⟩
  obtain ⟨b, cur, g1, g2, _⟩ := hb1
  obtain ⟨b', g3, g4⟩ := hR
  rw [g1] at g3
  have hvb : v = vl a s := by
   rw [g1]
   rcases g3 with g3 | ⟨_, _, g3⟩
   ·cases g3; exact g4
   ·cases g3
  show (ptp cells').H v c'
  rw [hvb]; exact hfz
end ops
end Go.Bn
namespace Go.Bn
open Go
def exaQ (x : Exa) : Rat := if 0 ≤ x.e then mkRat (x.low 0).m 1 else mkRat x.m (2 ^ (-x.e).toNat)
def fltQ (x : Nat) : Rat := exaQ (ofX x)
theorem exaQ_1 {x : Exa} (h : 0 ≤ x.e) : mkRat (sgnI (decide ((x.low 0).m < 0)) (x.low 0).m.natAbs) 1 = exaQ x := by
 unfold exaQ
 rw [if_pos h, set_1]
theorem one_pow_abs (n : Nat) : (((1 : Nat) : Int) * 2 ^ n).natAbs = 2 ^ n ∧ 0 < ((1 : Nat) : Int) * 2 ^ n := by
 have e : ((1 : Nat) : Int) * 2 ^ n = ((2 ^ n : Nat) : Int) := by simp
 rw [e, Int.natAbs_natCast]
 exact ⟨rfl, by have := Nat.two_pow_pos n; omega⟩
theorem exaQ_0 {x : Exa} (h : x.e < 0) : mkRat (sgnI (decide (x.m < 0) != decide (((1 : Nat) : Int) * 2 ^ (-x.e).toNat < 0)) x.m.natAbs) (((1 : Nat) : Int) * 2 ^ (-x.e).toNat).natAbs = exaQ x := by
 obtain ⟨h1, h2⟩ := one_pow_abs (-x.e).toNat
 unfold exaQ
 rw [if_neg (by omega), h1, show decide (((1 : Nat) : Int) * 2 ^ (-x.e).toNat < 0) = false by simp only [decide_eq_false_iff_not]; omega, Bool.bne_false, set_1]
structure Exf (x : Exa) : Prop where
 b : Exb x
 e0 : -1100 ≤ x.e
 e1 : x.e ≤ 1100
 m : x.m.natAbs < 9007199254740992
theorem pow_lt_wpw {n k : Nat} (h : n < 32 * k) : ((2 ^ n : Nat) : Int) < wpw k := by
 have e : wpw k = ((2 ^ (32 * k) : Nat) : Int) := by
  have : (2 : Nat) ^ 32 = 4294967296 := by decide
  rw [Nat.pow_mul, this, Int.natCast_pow]
  rfl
 rw [e]
 exact Int.ofNat_lt.2 (Nat.pow_lt_pow_right (by omega) h)
theorem exf_low {x : Exa} (h : Exf x) (h0 : 0 ≤ x.e) : (((x.low 0).m.natAbs : Nat) : Int) < wpw 40 := by
 have h1 := h.m
 have h2 := h.e1
 unfold Exa.low
 split
 ·have h3 := wpw_mono (show 2 ≤ 40 by omega)
  have h4 : wpw 2 = 18446744073709551616 := by decide +kernel
  omega
 ·show (((x.m * 2 ^ (x.e - 0).toNat).natAbs : Nat) : Int) < wpw 40
  have e : (x.m * 2 ^ (x.e - 0).toNat).natAbs = x.m.natAbs * 2 ^ (x.e - 0).toNat := by
   rw [Int.natAbs_mul, show (2 : Int) ^ (x.e - 0).toNat = ((2 ^ (x.e - 0).toNat : Nat) : Int) by simp, Int.natAbs_natCast]
  rw [e]
  have h4 : wpw 2 = 18446744073709551616 := by decide +kernel
  exact wpw_mul (n := 2) (m := 38) (by omega) (pow_lt_wpw (by omega)) (by omega)
theorem sml_40 {x : Int} (h : ((x.natAbs : Nat) : Int) < wpw 40) : Sml x := ⟨by have := wpw_mono (show 40 ≤ 4000 by omega); omega⟩
theorem sml_pow {n : Nat} (h : n ≤ 1100) : Sml (((1 : Nat) : Int) * 2 ^ n) := sml_40 (by rw [(one_pow_abs n).1]; exact pow_lt_wpw (by omega))
theorem exaQ_sz {x : Exa} (h : Exf x) : Rsz 40 (exaQ x) := by
 have h1 := h.m
 have h2 := h.e0
 have w2 : wpw 2 = 18446744073709551616 := by decide +kernel
 have w40 := wpw_mono (show 2 ≤ 40 by omega)
 unfold exaQ
 split
 ·rename_i h0
  rw [← set_1 (x := (x.low 0).m)]
  exact rsz_mk (by omega) (exf_low h h0) (by omega)
 ·rename_i h0
  rw [← set_1 (x := x.m)]
  exact rsz_mk (by have := Nat.two_pow_pos (-x.e).toNat; omega) (by omega) (pow_lt_wpw (by omega))
theorem ofX_exf {x : Nat} (hf : finB x = true) (hx : x < 2 ^ 64) : Exf (ofX x) := by
 obtain ⟨a1, a2⟩ := ofX_e hf hx
 exact ⟨ofX_exb hf hx, by omega, by omega, ofX_small x⟩
def NILP : Value := .pointer none
abbrev ratX (T : TypeId) (vs : List Value) (qs : List Rat) (i : Nat) : Res := blk (vs.getD i NILP) (ratC (qs.getD i 0)) T
def ratM (U : Value) (qs : List Rat) (TP T : TypeId) : Res := exR fun vs : {vs : List Value // vs.length = qs.length} => (som U isv vs.1 TP).sep (pool qs.length (ratX T vs.1 qs))
theorem blk_ptr {u : Value} {cells : List SP} {T : TypeId} : ∀ c ob, (blk u cells T).H c ob → ∃ b, u = .pointer (some ⟨b, 0, none⟩) := fun c ob ⟨b, _, h, _⟩ => ⟨b, h⟩
theorem ipo_isv {Γ : Facts} {u : Value} (h : ∃ b, u = .pointer (some ⟨b, 0, none⟩)) : Sb Γ (ipo u 0) (isv u) := fun v c hf ⟨b, h1, h2⟩ => by
 obtain ⟨b', e⟩ := h
 rcases h1 with h1 | ⟨_, _, h1⟩
 ·rw [h2, ← h1]; exact ⟨rfl, by rw [h1]; rfl⟩
 ·rw [e] at h1; cases h1
theorem isv_ipo {Γ : Facts} {u : Value} (h : ∃ b, u = .pointer (some ⟨b, 0, none⟩)) : Sb Γ (isv u) (ipo u 0) := fun v c hf hv => by
 obtain ⟨b, e⟩ := h
 exact ⟨b, .inl e, by rw [hv.1, e]⟩
theorem take_map_snoc {α β : Type} {f : α → β} {xs : List α} {k : Nat} (d : α) (hk : k < xs.length) : (xs.map f).take k ++ [f (xs.getD k d)] = (xs.map f).take (k + 1) := by
 rw [List.take_add_one, List.getElem?_map, List.getElem?_eq_getElem hk]
 simp [List.getD, List.getElem?_eq_getElem hk]
end Go.Bn
namespace Go.Bn
open Go
theorem JN_know {X : Cx} {Γ : Facts} {ρ : Env} {σ : List Res} {K : Act → World → Prop} {r : Res} {R : Prop} (k : Nat) (hk : nth σ k = some r) (hr : ∀ c ob, r.H c ob → R) (h : R → JN X Γ ρ σ K) : JN X Γ ρ σ K := fun a c hs => by
 obtain ⟨obs, hown, hres⟩ := hs.own
 exact h (hr _ _ (hres k _ hk)) a c hs
abbrev ratZ : List SP := [isv (.bool false), isv (.slice none 0 0), isv (.bool false), isv (.slice none 0 0)]
abbrev zerX (T : TypeId) (vs : List Value) (i : Nat) : Res := blk (vs.getD i NILP) ratZ T
def zerM (U : Value) (n : Nat) (TP T : TypeId) : Res := exR fun vs : {vs : List Value // vs.length = n} => (som U isv vs.1 TP).sep (pool n (zerX T vs.1))
theorem getD_snoc {α : Type} (l : List α) (x d : α) : (l ++ [x]).getD l.length d = x := by simp [List.getD]
theorem getD_app {α : Type} {l m : List α} {i : Nat} (d : α) (h : i < l.length) : (l ++ m).getD i d = l.getD i d := by simp [List.getD, List.getElem?_append_left h]
theorem push_zer {T : TypeId} {vs : List Value} {k : Nat} {b : Value} (hl : vs.length = k) : ∀ c ob, (pool (k + 1) (fillR (zerX T vs) k (blk b ratZ T))).H c ob → (pool (k + 1) (zerX T (vs ++ [b]))).H c ob :=
 pool_congr fun i hi => by
  unfold fillR
  subst hl
  by_cases h : i = vs.length
  ·rw [if_pos h, h]
   show blk b ratZ T = blk ((vs ++ [b]).getD vs.length NILP) ratZ T
   rw [getD_snoc]
  ·rw [if_neg h]
   show blk (vs.getD i NILP) ratZ T = blk ((vs ++ [b]).getD i NILP) ratZ T
   rw [getD_app _ (by omega)]
theorem zer_close {U : Value} {T TP : TypeId} {vs : List Value} {k n : Nat} (hk : k = n) (hl : vs.length = k) : ∀ c ob, ((som U isv vs TP).sep (pool k (zerX T vs))).H c ob → (zerM U n TP T).H c ob := fun c ob h => by
 subst hk
 exact ⟨⟨vs, hl⟩, h⟩
def mixX (T : TypeId) (vs : List Value) (qs : List Rat) (k i : Nat) : Res := blk (vs.getD i NILP) (if i < k then ratC (qs.getD i 0) else ratZ) T
theorem mix_zero {T : TypeId} {vs : List Value} {qs : List Rat} {n : Nat} : ∀ c ob, (pool n (zerX T vs)).H c ob → (pool n (mixX T vs qs 0)).H c ob := pool_congr fun i hi => by
 unfold mixX
 rw [if_neg (Nat.not_lt_zero i)]
theorem mix_at {T : TypeId} {vs : List Value} {qs : List Rat} {k : Nat} : mixX T vs qs k k = blk (vs.getD k NILP) ratZ T := by
 unfold mixX
 rw [if_neg (Nat.lt_irrefl k)]
theorem mix_step {T : TypeId} {vs : List Value} {qs : List Rat} {n k : Nat} : ∀ c ob, (pool n (fillR (mixX T vs qs k) k (blk (vs.getD k NILP) (ratC (qs.getD k 0)) T))).H c ob → (pool n (mixX T vs qs (k + 1))).H c ob := pool_congr fun i hi => by
 unfold fillR
 by_cases h : i = k
 ·rw [if_pos h, h]
  unfold mixX
  rw [if_pos (by omega)]
 ·rw [if_neg h]
  unfold mixX
  by_cases h2 : i < k
  ·rw [if_pos h2, if_pos (by omega)]
  ·rw [if_neg h2, if_neg (by omega)]
theorem rat_close {U : Value} {T TP : TypeId} {vs : List Value} {qs : List Rat} {k : Nat} (hk : k = qs.length) (hl : vs.length = qs.length) : ∀ c ob, ((som U isv vs TP).sep (pool qs.length (mixX T vs qs k))).H c ob → (ratM U qs TP T).H c ob := fun c ob ⟨o1, o2, h1, h2, h3, h4⟩ => by
 subst hk
 refine ⟨⟨vs, hl⟩, o1, o2, h1, h2, h3, pool_congr (fun i hi => ?_) c o2 h4⟩
 unfold mixX
 rw [if_pos hi]
theorem fix_poolX {T : TypeId} {n : Nat} {vs : List Value} {f g : Nat → List SP} : Fix (pool n fun i => blk (vs.getD i NILP) (f i) T) (pool n fun i => blk (vs.getD i NILP) (g i) T) := by
 rintro c c' ob ob' ⟨os, h1, h2, h3⟩ ⟨os', k1, k2, k3⟩
 have e : ∀ i, i < n → os i = os' i := fun i hi => fix_blk c c' (os i) (os' i) (h3 i hi) (k3 i hi)
 funext b
 apply propext
 rw [h1, k1]
 constructor
 ·rintro ⟨i, hi, hb⟩; exact ⟨i, hi, by rw [← e i hi]; exact hb⟩
 ·rintro ⟨i, hi, hb⟩; exact ⟨i, hi, by rw [e i hi]; exact hb⟩
def lesQ (qs : List Rat) (i j c : Nat) (f : Rat) : Nat → List Rat
 | 0 => qs
 | k + 1 => (lesQ qs i j c f k).set (i * c + k) (qs.getD (i * c + k) 0 - f * qs.getD (j * c + k) 0)
theorem length_lesQ (qs : List Rat) (i j c : Nat) (f : Rat) : ∀ k, (lesQ qs i j c f k).length = qs.length
 | 0 => rfl
 | k + 1 => by rw [lesQ, List.length_set, length_lesQ qs i j c f k]
theorem getD_setQ {qs : List Rat} {i m : Nat} {v : Rat} (hi : i < qs.length) : (qs.set i v).getD m 0 = if m = i then v else qs.getD m 0 := by
 simp only [List.getD, List.getElem?_set]
 by_cases h : i = m
 ·subst h; simp [hi]
 ·rw [if_neg h, if_neg (fun e => h e.symm)]
theorem lesQ_at {qs : List Rat} {i j c : Nat} {f : Rat} : ∀ {k : Nat}, k ≤ c → i * c + c ≤ qs.length → ∀ m, (lesQ qs i j c f k).getD m 0 = if i * c ≤ m ∧ m < i * c + k then qs.getD m 0 - f * qs.getD (j * c + (m - i * c)) 0 else qs.getD m 0
 | 0, _, _, m => by rw [lesQ, if_neg (by omega)]
 | k + 1, hk, hl, m => by
  rw [lesQ, getD_setQ (by rw [length_lesQ]; omega), lesQ_at (by omega) hl m]
  by_cases h : m = i * c + k
  ·rw [if_pos h, if_pos (by omega), h, show i * c + k - i * c = k by omega]
  ·rw [if_neg h]
   by_cases h2 : i * c ≤ m ∧ m < i * c + k
   ·rw [if_pos h2, if_pos (by omega)]
   ·rw [if_neg h2, if_neg (by omega)]
theorem row_lt {i c k n : Nat} (hi : i < n) (hk : k < c) : i * c + k < n * c := by
 have h1 : i * c + c ≤ n * c := by rw [← Nat.succ_mul]; exact Nat.mul_le_mul_right c hi
 omega
end Go.Bn
namespace Go.Bn
open Go
theorem pool_out {n : Nat} {F : Nat → Res} {i : Nat} (hi : i < n) : ∀ c ob, (pool n F).H c ob → ((F i).sep (pool n (holeR F i))).H c ob := fun c ob hp => by
 obtain ⟨os, h1, h2, h3⟩ := hp
 refine ⟨os i, fun b => ∃ m, m < n ∧ m ≠ i ∧ os m b, fun b => ?_, fun x hx ⟨m, g1, g2, g3⟩ => g2 (h2 m i x g1 hi g3 hx), h3 i hi, ⟨fun m => if m = i then nob else os m, fun b => ⟨fun ⟨m, g1, g2, g3⟩ => ⟨m, g1, by simp only [if_neg g2]; exact g3⟩, fun ⟨m, g1, g2⟩ => ?_⟩, fun a b x ha hb hx hy => ?_, fun m hm => ?_⟩⟩
 ·rw [h1]
  constructor
  ·rintro ⟨m, g1, g2⟩
   by_cases e : m = i
   ·exact .inl (e ▸ g2)
   ·exact .inr ⟨m, g1, e, g2⟩
  ·rintro (hx | ⟨m, g1, _, g3⟩)
   ·exact ⟨i, hi, hx⟩
   ·exact ⟨m, g1, g3⟩
 ·by_cases e : m = i
  ·simp only [if_pos e] at g2; cases g2
  ·simp only [if_neg e] at g2; exact ⟨m, g1, e, g2⟩
 ·by_cases e : a = i
  ·simp only [if_pos e] at hx; cases hx
  ·by_cases e2 : b = i
   ·simp only [if_pos e2] at hy; cases hy
   ·simp only [if_neg e] at hx; simp only [if_neg e2] at hy
    exact h2 a b x ha hb hx hy
 ·unfold holeR
  by_cases e : m = i
  ·simp only [if_pos e]; rfl
  ·simp only [if_neg e]; exact h3 m hm
theorem pool_in {n : Nat} {F : Nat → Res} {i : Nat} {r : Res} (hi : i < n) : ∀ c ob, (r.sep (pool n (holeR F i))).H c ob → (pool n (fillR F i r)).H c ob := fun c ob hp => by
 obtain ⟨q, p, hob, hd, hq, os, h1, h2, h3⟩ := hp
 have hoi : ∀ b, ¬ os i b := fun b hb => by
  have := h3 i hi
  unfold holeR at this
  rw [if_pos rfl] at this
  have this : os i = nob := this
  rw [this] at hb; cases hb
 refine ⟨fun m => if m = i then q else os m, fun b => ?_, fun a b x ha hb hx hy => ?_, fun m hm => ?_⟩
 ·rw [hob]
  constructor
  ·rintro (hb | hb)
   ·exact ⟨i, hi, by simp only [if_true]; exact hb⟩
   ·obtain ⟨m, g1, g2⟩ := (h1 b).1 hb
    refine ⟨m, g1, ?_⟩
    by_cases e : m = i
    ·rw [e] at g2; exact (hoi b g2).elim
    ·simp only [if_neg e]; exact g2
  ·rintro ⟨m, g1, g2⟩
   by_cases e : m = i
   ·simp only [if_pos e] at g2; exact .inl g2
   ·simp only [if_neg e] at g2; exact .inr ((h1 b).2 ⟨m, g1, g2⟩)
 ·by_cases e : a = i
  ·by_cases e2 : b = i
   ·rw [e, e2]
   ·simp only [if_pos e] at hx; simp only [if_neg e2] at hy
    exact (hd x hx ((h1 x).2 ⟨b, hb, hy⟩)).elim
  ·by_cases e2 : b = i
   ·simp only [if_neg e] at hx; simp only [if_pos e2] at hy
    exact (hd x hy ((h1 x).2 ⟨a, ha, hx⟩)).elim
   ·simp only [if_neg e] at hx; simp only [if_neg e2] at hy
    exact h2 a b x ha hb hx hy
 ·unfold fillR
  by_cases e : m = i
  ·simp only [if_pos e]; exact hq
  ·have := h3 m hm
   unfold holeR at this
   rw [if_neg e] at this
   simp only [if_neg e]; exact this
theorem CtM.conv {P : Program} {f : Nat} {ps : List SP} {R : SP} {r0 r0' r1 r1' : Res} (h : CtM P f ps r1 R r1') (h0 : ∀ c ob, r0.H c ob → r1.H c ob) (h1 : ∀ c ob, r1'.H c ob → r0'.H c ob) : CtM P f ps r0 R r0' :=
 ⟨h.1, fun vs c ob hwf hv hr hM => (h.2 vs c ob hwf hv (h0 _ _ hr) hM).mono fun e w' ⟨v, he, hxm, hR, hr'⟩ => ⟨v, he, hxm, hR, h1 _ _ hr'⟩⟩
def PtrV (n : Nat) (vs : List Value) : Prop := ∀ i, i < n → ∃ b, vs.getD i NILP = .pointer (some ⟨b, 0, none⟩)
theorem pool_ptr {T : TypeId} {n : Nat} {vs : List Value} {qs : List Rat} : ∀ c ob, (pool n (ratX T vs qs)).H c ob → PtrV n vs := fun c ob ⟨os, h1, h2, h3⟩ i hi => blk_ptr _ _ (h3 i hi)
theorem noi_ratX {T : TypeId} {n : Nat} {vs : List Value} {qs : List Rat} : NoI (pool n (ratX T vs qs)) := noi_pool fun i hi => noi_rat
theorem noi_hole {T : TypeId} {n a : Nat} {vs : List Value} {qs : List Rat} : NoI (pool n (holeR (ratX T vs qs) a)) := noi_pool fun i hi => by
 unfold holeR
 by_cases e : i = a
 ·rw [if_pos e]; exact noi_emp
 ·rw [if_neg e]; exact noi_rat
theorem lent_ratX {T : TypeId} {n i : Nat} {vs : List Value} {qs : List Rat} (hi : i < n) : Lent (pool n (ratX T vs qs)) (isv (vs.getD i NILP)) (ratP (qs.getD i 0)) := lent_pool hi lent_isv
theorem fix_ratX {T : TypeId} {n : Nat} {vs : List Value} {qs qs' : List Rat} : Fix (pool n (ratX T vs qs)) (pool n (ratX T vs qs')) := fix_poolX
theorem LendL.refl {rp : Res} : ∀ ps : List SP, LendL rp ps ps
 | [] => trivial
 | _ :: ps => ⟨.inl rfl, LendL.refl ps⟩
theorem CtM.two {P : Program} {f : Nat} {u : Value} {p q p' q' : SP} {cs : List SP} {z : Rat} {T : TypeId} {rp : Res} (h : CtM P f [ipo u 0, p', q'] (blk u cs T) (ipo u 0) (blk u (ratC z) T)) (hp : p = p' ∨ Lent rp p p') (hq : q = q' ∨ Lent rp q q') (hn : NoI rp) : CtM P f [ipo u 0, p, q] ((blk u cs T).sep rp) (ipo u 0) ((blk u (ratC z) T).sep rp) :=
 h.lend ⟨.inl rfl, hp, hq, trivial⟩ (pure_ipo _ _) fun c ob w' M o1 hr hh hv => rat_off hn hr hh hv
theorem CtM.inpool {P : Program} {f : Nat} {n i : Nat} {ps : List SP} {u : Value} {z : Rat} {T : TypeId} {vs : List Value} {qs : List Rat} (hi : i < n) (hl : i < qs.length) (h : CtM P f ps (blk (vs.getD i NILP) (ratC (qs.getD i 0)) T) (ipo u 0) (blk (vs.getD i NILP) (ratC z) T)) : CtM P f ps (pool n (ratX T vs qs)) (ipo u 0) (pool n (ratX T vs (qs.set i z))) :=
 (h.lend (rp := pool n (holeR (ratX T vs qs) i)) (qs := ps) (LendL.refl ps) (pure_ipo _ _) fun c ob w' M o1 hr hh hv => rat_off noi_hole hr hh hv).conv (pool_out hi) fun c ob h => pool_congr (fun j hj => by
  unfold fillR
  by_cases e : j = i
  ·rw [if_pos e, e]
   show blk (vs.getD i NILP) (ratC z) T = blk (vs.getD i NILP) (ratC ((qs.set i z).getD i 0)) T
   rw [getD_setQ hl, if_pos rfl]
  ·rw [if_neg e]
   show blk (vs.getD j NILP) (ratC (qs.getD j 0)) T = blk (vs.getD j NILP) (ratC ((qs.set i z).getD j 0)) T
   rw [getD_setQ hl, if_neg e]) c ob (pool_in hi c ob h)
theorem rsz_mul {x y : Rat} {n m k : Nat} (hx : Rsz n x) (hy : Rsz m y) (hk : n + m ≤ k) : Rsz k (x * y) := by
 rw [← rat_mul]
 exact rsz_mk (Nat.mul_ne_zero x.den_nz y.den_nz) (wpw_mul hx.a hy.a hk) (wpw_mul hx.b hy.b hk)
theorem rsz_quo {x y : Rat} {n m k : Nat} (hx : Rsz n x) (hy : Rsz m y) (hy0 : y ≠ 0) (hk : n + m ≤ k) : Rsz k (x / y) := by
 rw [← rat_quo hy0]
 have h0 : y.num ≠ 0 := fun e => hy0 (Rat.num_eq_zero.1 e)
 exact rsz_mk (Nat.mul_ne_zero x.den_nz (by omega)) (wpw_mul hx.a hy.b hk) (wpw_mul hx.b hy.a hk)
theorem rsz_sub {x y : Rat} {n m k : Nat} (hx : Rsz n x) (hy : Rsz m y) (hk : n + m + 1 ≤ k) : Rsz k (x - y) := by
 rw [← rat_sub]
 have h1 := wpw_mul hx.a hy.b (Nat.le_refl (n + m))
 have h2 := wpw_mul hy.a hx.b (show m + n ≤ n + m by omega)
 have h3 := wpw_mul hx.b hy.b (show n + m ≤ k by omega)
 have h4 := wpw_mono hk
 rw [wpw_succ] at h4
 have h0 := wpw_pos (n + m)
 have e1 : (x.num * y.den).natAbs = x.num.natAbs * y.den := by rw [Int.natAbs_mul, Int.natAbs_natCast]
 have e2 : (y.num * x.den).natAbs = y.num.natAbs * x.den := by rw [Int.natAbs_mul, Int.natAbs_natCast]
 rw [← e1] at h1
 rw [← e2] at h2
 exact rsz_mk (Nat.mul_ne_zero x.den_nz y.den_nz) (by omega) h3
theorem rsz_zero : Rsz 1 0 := ⟨by decide +kernel, by decide +kernel⟩
def elQ (M : Nat → Nat → Rat) : Nat → Nat → Nat → Rat
 | 0 => M
 | c + 1 => fun i j => if c < i then elQ M c i j - elQ M c i c / elQ M c c c * elQ M c c j else elQ M c i j
structure Elp (n : Nat) (M : Nat → Nat → Rat) : Prop where
 pos : ∀ c, c < n → 0 < elQ M c c c
 sz : ∀ c i j, c ≤ n → i < n → j < n → Rsz 700 (elQ M c i j)
def AtQ (qs : List Rat) (M : Nat → Nat → Rat) (n c i : Nat) : Prop := qs.length = n * n ∧ ∀ r j, r < n → j < n → qs.getD (r * n + j) 0 = elQ M (if r < i then c + 1 else c) r j
theorem atQ_zero {qs : List Rat} {M : Nat → Nat → Rat} {n : Nat} (hl : qs.length = n * n) (h : ∀ r j, r < n → j < n → qs.getD (r * n + j) 0 = M r j) : AtQ qs M n 0 0 := ⟨hl, fun r j hr hj => by rw [h r j hr hj, if_neg (Nat.not_lt_zero r)]; rfl⟩
theorem elQ_low {M : Nat → Nat → Rat} {c i j : Nat} (h : i ≤ c) : elQ M (c + 1) i j = elQ M c i j := by
 show (if c < i then _ else _) = _
 rw [if_neg (by omega)]
theorem elQ_step {M : Nat → Nat → Rat} {c i j : Nat} (h : c < i) : elQ M (c + 1) i j = elQ M c i j - elQ M c i c / elQ M c c c * elQ M c c j := by
 show (if c < i then _ else _) = _
 rw [if_pos h]
theorem atQ_first {qs : List Rat} {M : Nat → Nat → Rat} {n c : Nat} (h : AtQ qs M n c 0) : AtQ qs M n c (c + 1) := ⟨h.1, fun r j hr hj => by
 rw [h.2 r j hr hj, if_neg (Nat.not_lt_zero r)]
 by_cases hc : r < c + 1
 ·rw [if_pos hc, elQ_low (by omega)]
 ·rw [if_neg hc]⟩
theorem atQ_next {qs : List Rat} {M : Nat → Nat → Rat} {n c : Nat} (h : AtQ qs M n c n) : AtQ qs M n (c + 1) 0 := ⟨h.1, fun r j hr hj => by
 rw [h.2 r j hr hj, if_pos hr, if_neg (Nat.not_lt_zero r)]⟩
theorem atQ_row {qs : List Rat} {M : Nat → Nat → Rat} {n c i : Nat} (h : AtQ qs M n c i) (hc : c < i) (hi : i < n) : AtQ (lesQ qs i c n (qs.getD (i * n + c) 0 / qs.getD (c * n + c) 0) n) M n c (i + 1) := by
 refine ⟨by rw [length_lesQ]; exact h.1, fun r j hr hj => ?_⟩
 have hl : i * n + n ≤ qs.length := by
  rw [h.1, ← Nat.succ_mul]; exact Nat.mul_le_mul_right n hi
 rw [lesQ_at (Nat.le_refl n) hl]
 by_cases e : r = i
 ·subst e
  rw [if_pos (by omega), if_pos (by omega), show r * n + j - r * n = j by omega, h.2 r j hr hj, h.2 r c hr (by omega), h.2 c c (by omega) (by omega), h.2 c j (by omega) hj, if_neg (Nat.lt_irrefl r), if_pos hc, elQ_step hc, elQ_low (Nat.le_refl c), elQ_low (Nat.le_refl c)]
 ·have hn : ¬ (i * n ≤ r * n + j ∧ r * n + j < i * n + n) := by
   intro ⟨h1, h2⟩
   rcases Nat.lt_or_gt_of_ne e with h3 | h3
   ·have h4 : r * n + n ≤ i * n := by rw [← Nat.succ_mul]; exact Nat.mul_le_mul_right n h3
    omega
   ·have h4 : i * n + n ≤ r * n := by rw [← Nat.succ_mul]; exact Nat.mul_le_mul_right n h3
    omega
  rw [if_neg hn, h.2 r j hr hj]
  by_cases h5 : r < i
  ·rw [if_pos h5, if_pos (by omega)]
  ·rw [if_neg h5, if_neg (by omega)]
theorem les_get {qs : List Rat} {i k c n j : Nat} {f : Rat} (hl : qs.length = n) (hik : i ≠ k) (hi : i * c + c ≤ n) (hk : k * c + c ≤ n) (hj : j < c) : (lesQ qs i k c f j).getD (i * c + j) 0 = qs.getD (i * c + j) 0 ∧ (lesQ qs i k c f j).getD (k * c + j) 0 = qs.getD (k * c + j) 0 := by
 refine ⟨?_, ?_⟩
 ·rw [lesQ_at (by omega) (by omega), if_neg (by omega)]
 ·rw [lesQ_at (by omega) (by omega), if_neg]
  intro ⟨h1, h2⟩
  rcases Nat.lt_or_gt_of_ne hik with h3 | h3
  ·have h4 : i * c + c ≤ k * c := by rw [← Nat.succ_mul]; exact Nat.mul_le_mul_right c h3
   omega
  ·have h4 : k * c + c ≤ i * c := by rw [← Nat.succ_mul]; exact Nat.mul_le_mul_right c h3
   omega
theorem elp_sz {qs : List Rat} {M : Nat → Nat → Rat} {n : Nat} (hl : qs.length = n * n) (hM : ∀ r j, r < n → j < n → qs.getD (r * n + j) 0 = M r j) (hE : Elp n M) (m : Nat) : Rsz 700 (qs.getD m 0) := by
 by_cases h : m < n * n
 ·have hn : 0 < n := Nat.pos_of_ne_zero fun e => by subst e; omega
  have h1 : m / n < n := Nat.div_lt_of_lt_mul h
  have h2 : m % n < n := Nat.mod_lt _ hn
  have h3 := hM (m / n) (m % n) h1 h2
  have e : m / n * n + m % n = m := by rw [Nat.mul_comm]; exact Nat.div_add_mod m n
  rw [e] at h3
  rw [h3]
  exact hE.sz 0 _ _ (Nat.zero_le _) h1 h2
 ·have : qs.getD m 0 = 0 := by simp only [List.getD, List.getElem?_eq_none (show qs.length ≤ m by omega), Option.getD_none]
  rw [this]
  exact rsz_zero.mono (by omega)
theorem atQ_pos {qs : List Rat} {M : Nat → Nat → Rat} {n c : Nat} (hE : Elp n M) (h : AtQ qs M n c 0) (hc : c < n) : signI (qs.getD (c * n + c) 0).num = 1 ∧ qs.getD (c * n + c) 0 ≠ 0 := by
 have h1 := h.2 c c hc hc
 rw [if_neg (Nat.not_lt_zero c)] at h1
 rw [h1]
 have h2 := hE.pos c hc
 have h3 : 0 < (elQ M c c c).num := by rw [Rat.lt_iff] at h2; simpa using h2
 refine ⟨?_, fun e => ?_⟩
 ·unfold signI
  split <;> (try split) <;> omega
 ·rw [e] at h2
  exact absurd h2 (by decide)
theorem atQ_sz {qs : List Rat} {M : Nat → Nat → Rat} {n c i : Nat} (hE : Elp n M) (h : AtQ qs M n c i) (hi : i < n) (hc : c < n) : (∀ j, j < n → Rsz 900 (qs.getD (i * n + j) 0)) ∧ (∀ j, j < n → Rsz 900 (qs.getD (c * n + j) 0)) ∧ Rsz 2000 (qs.getD (i * n + c) 0) ∧ Rsz 2000 (qs.getD (c * n + c) 0) ∧ qs.getD (c * n + c) 0 ≠ 0 ∧ Rsz 2000 (qs.getD (i * n + c) 0 / qs.getD (c * n + c) 0) := by
 have key : ∀ r j, r < n → j < n → Rsz 700 (qs.getD (r * n + j) 0) := fun r j hr hj => by
  rw [h.2 r j hr hj]
  split
  ·exact hE.sz _ _ _ hc hr hj
  ·exact hE.sz _ _ _ (by omega) hr hj
 have hn : qs.getD (c * n + c) 0 ≠ 0 := by
  have h1 := h.2 c c hc hc
  have h2 := hE.pos c hc
  have h3 : elQ M (if c < i then c + 1 else c) c c = elQ M c c c := by
   split
   ·exact elQ_low (Nat.le_refl c)
   ·rfl
  rw [h1, h3]
  intro e
  rw [e] at h2
  exact absurd h2 (by decide)
 have a := key i c hi hc
 have b := key c c hc hc
 exact ⟨fun j hj => (key i j hi hj).mono (by omega), fun j hj => (key c j hc hj).mono (by omega), a.mono (by omega), b.mono (by omega), hn, rsz_quo a b hn (by omega)⟩
end Go.Bn
