/-
 Words of numbers taken apart and put together; what a scaled number's word is.
-/
import Derived.Test.YtllkellonjhalaaGreatRrRnd
set_option linter.unusedVariables false
set_option linter.unusedSimpArgs false
namespace Go.Bn
open Go
section ops
variable {P : Program} {n : Nat} {ops : Array Oper} {Γ : Facts} {ρ : Env} {δ : VEnv} {τ : List VR}
variable {d : Nat} {ty : TypeId} {pos : String} {af : Array Edge}
theorem op_imax {x y : Operand} {ats : Array TypeId} {k : IntKind} {a b : Int} (hx : Lk Γ δ ρ x (isv (.int k a))) (hy : Lk Γ δ ρ y (isv (.int k b))) :
  OpOK P n ops Γ ρ δ τ ⟨some d, .call ⟨.builtin .max, #[x, y], ats⟩, ty, pos, af, none⟩ .no (.c (isv (.int k (max a b)))) dum :=
 ok_pure fun A c _ hr => by
  have h1 := (hr x _ (by simp [Op.operands, Call.operands]) hx).1
  have h2 := (hr y _ (by simp [Op.operands, Call.operands]) hy).1
  refine ⟨.int k (max a b), ?_, rfl, rfl⟩
  by_cases h : a < b
  ·simp [execOp, resolve, invoke, builtin, Builtin.max_, Builtin.max2, h1, h2, h, show max a b = b by omega]
  ·simp [execOp, resolve, invoke, builtin, Builtin.max_, Builtin.max2, h1, h2, h, show max a b = a by omega]
end ops
theorem J_cutS {X : Cx} {Γ : Facts} {ρ : Env} {σ : List Res} {Q : Exit → Act → World → Prop} {ρc ρ1 : Env} {σ' : List Res} {x y : Code} (hp : To X Γ ρ σ Γ ρc σ') (h1 : J X Γ ρ σ x (Exit.then (fun a w => ∃ c', c'.w = w ∧ St X Γ (ρ1 ++ ρc) σ' a c') Q)) (h2 : J X Γ (ρ1 ++ ρc) σ' y Q) : J X Γ ρ σ x (Exit.then (fun a w => y.wp X.P Q a w) Q) := fun a c hs =>
 fun b kk cs => by
  obtain ⟨e, a', w', hq, har⟩ := h1 a c hs b kk cs
  refine ⟨e, a', w', ?_, har⟩
  cases e
  case normal =>
   obtain ⟨c', hw, hs'⟩ := hq
   show y.wp X.P Q a' w'
   rw [← hw]
   exact h2 a' c' hs'
  all_goals exact hq
def isq (u : Value) : SP := ⟨fun v _ => v = u ∧ ∃ b, u = .pointer (some ⟨b, 0, none⟩), fun _ _ _ _ h => h⟩
theorem sb_isq {Γ : Facts} {u : Value} : Sb Γ (isq u) (ipo u 0) := fun v c _ ⟨h1, b, h2⟩ => ⟨b, .inl h2, h1.trans h2⟩
theorem To.isq {X : Cx} {Γ : Facts} {ρ : Env} {σ : List Res} (k t : Nat) {u : Value} {cells : List SP} {T : TypeId} (hk : nth σ k = some (blk u cells T)) (ht : ρ.get t = some (ipo u 0)) : To X Γ ρ σ Γ ((t, Go.Bn.isq u) :: ρ) σ := fun a c hs => by
 refine ⟨c, rfl, hs.size, hs.defers, hs.facts, fun t' p hp => ?_, hs.own⟩
 simp only [Env.get] at hp
 by_cases e : t = t'
 ·subst e
  simp at hp
  subst hp
  obtain ⟨obs, _, hres⟩ := hs.own
  obtain ⟨b, cur, g1, _⟩ := hres k _ hk
  obtain ⟨b', g2, g3⟩ := hs.env t _ ht
  refine ⟨?_, b, g1⟩
  rw [g1] at g2
  rcases g2 with g2 | ⟨_, _, g2⟩
  ·cases g2; rw [g3, g1]
  ·cases g2
 ·rw [beq_ne e] at hp
  exact hs.env t' p hp
theorem To_bit {X : Cx} {Γ : Facts} {ρ : Env} {σ : List Res} {K : Act → World → Prop} (t : Nat) {x : Nat} (ht : ρ.get t = some (bitp x)) (h : ∀ b : Nat, b < 2 ^ 64 → cn b = x → JN X Γ ((t, isv (.int .u64 (b : Int))) :: ρ) σ K) : JN X Γ ρ σ K := fun a c hs => by
 obtain ⟨b, h1, h2, h3⟩ := hs.env t _ ht
 refine h b h2 h3 a c ⟨hs.size, hs.defers, hs.facts, fun t' p hp => ?_, hs.own⟩
 simp only [Env.get] at hp
 by_cases e : t = t'
 ·subst e
  simp at hp
  subst hp
  exact ⟨h1, rfl⟩
 ·rw [beq_ne e] at hp
  exact hs.env t' p hp
def len8 : ByteArray := ⟨#[0, 1, 2, 2, 3, 3, 3, 3, 4, 4, 4, 4, 4, 4, 4, 4, 5, 5, 5, 5, 5, 5, 5, 5, 5, 5, 5, 5, 5, 5, 5, 5, 6, 6, 6, 6, 6, 6, 6, 6, 6, 6, 6, 6, 6, 6, 6, 6, 6, 6, 6, 6, 6, 6, 6, 6, 6, 6, 6, 6, 6, 6, 6, 6, 7, 7, 7, 7, 7, 7, 7, 7, 7, 7, 7, 7, 7, 7, 7, 7, 7, 7, 7, 7, 7, 7, 7, 7, 7, 7, 7, 7, 7, 7, 7, 7, 7, 7, 7, 7, 7, 7, 7, 7, 7, 7, 7, 7, 7, 7, 7, 7, 7, 7, 7, 7, 7, 7, 7, 7, 7, 7, 7, 7, 7, 7, 7, 7, 8, 8, 8, 8, 8, 8, 8, 8, 8, 8, 8, 8, 8, 8, 8, 8, 8, 8, 8, 8, 8, 8, 8, 8, 8, 8, 8, 8, 8, 8, 8, 8, 8, 8, 8, 8, 8, 8, 8, 8, 8, 8, 8, 8, 8, 8, 8, 8, 8, 8, 8, 8, 8, 8, 8, 8, 8, 8, 8, 8, 8, 8, 8, 8, 8, 8, 8, 8, 8, 8, 8, 8, 8, 8, 8, 8, 8, 8, 8, 8, 8, 8, 8, 8, 8, 8, 8, 8, 8, 8, 8, 8, 8, 8, 8, 8, 8, 8, 8, 8, 8, 8, 8, 8, 8, 8, 8, 8, 8, 8, 8, 8, 8, 8, 8, 8, 8, 8, 8, 8, 8, 8, 8, 8, 8, 8, 8, 8]⟩
theorem len8_nat : ∀ i : Nat, i < 256 → len8[i]? = some (UInt8.ofNat (bl i)) := by decide +kernel
theorem len8_at {z : Int} (h0 : 0 ≤ z) (h1 : z < 256) : len8[z.toNat]? = some (UInt8.ofNat (bl z.toNat)) := len8_nat _ (by omega)
theorem len8_wrap {z : Int} (h0 : 0 ≤ z) (h1 : z < 256) : IntKind.i64.wrap (((UInt8.ofNat (bl z.toNat)).toNat : Nat) : Int) = (bl z.toNat : Int) := by
 have h := bl_lt (t := z.toNat) (k := 8) (by omega)
 have e : (UInt8.ofNat (bl z.toNat)).toNat = bl z.toNat := by simp; omega
 rw [e]
 exact zO (by omega) (by omega)
theorem shr32_16 (z : Int) : z.fdiv (2 ^ min (16 : Int).toNat IntKind.u32.bits) = z / 65536 := by
 show z.fdiv 65536 = z / 65536
 exact Int.fdiv_eq_ediv_of_nonneg z (by omega)
theorem shr32_8 (z : Int) : z.fdiv (2 ^ min (8 : Int).toNat IntKind.u32.bits) = z / 256 := by
 show z.fdiv 256 = z / 256
 exact Int.fdiv_eq_ediv_of_nonneg z (by omega)
theorem wr8 {z : Int} (h0 : 0 ≤ z) (h1 : z < 256) : IntKind.u8.wrap z = z := by
 simp [IntKind.wrap, IntKind.bits, IntKind.signed]
 omega
theorem bl_16 {z : Int} (h : 65536 ≤ z) : (bl z.toNat : Int) = 16 + (bl (z / 65536).toNat : Int) := by
 have := bl_shr (t := z.toNat) (k := 16) (by show 65536 ≤ _; omega)
 rw [show z.toNat / 2 ^ 16 = (z / 65536).toNat by show z.toNat / 65536 = _; omega] at this
 omega
theorem bl_8 {z : Int} (h : 256 ≤ z) : (bl z.toNat : Int) = 8 + (bl (z / 256).toNat : Int) := by
 have := bl_shr (t := z.toNat) (k := 8) (by show 256 ≤ _; omega)
 rw [show z.toNat / 2 ^ 8 = (z / 256).toNat by show z.toNat / 256 = _; omega] at this
 omega
theorem wr_bl {n y : Int} (h0 : 0 ≤ n) (h1 : n ≤ 100) (h2 : 0 ≤ y) (h3 : y < 256) : IntKind.i64.wrap (n + (bl y.toNat : Int)) = n + (bl y.toNat : Int) := by
 have h := bl_lt (t := y.toNat) (k := 8) (by omega)
 exact zO (by omega) (by omega)
theorem rgt_end {m : List Int} {n i : Nat} (hm : Dig m) (hw : ¬ (m.length : Int) ≤ ((n / 32 : Nat) : Int)) (hi : i = m.length - n / 32) : magI (rgtP m (n / 32) (n % 32) i) = magI m / 2 ^ n := by
 rw [rgtP_all hi, rgt_mag hm (by omega)]
theorem rgtP_dig (m : List Int) (w s i : Nat) : Dig (rgtP m w s i) := fun z hz => by
 unfold rgtP at hz
 rcases List.mem_append.1 hz with h | h
 ·exact rgtL_dig m w s z (List.mem_of_mem_take h)
 ·rw [(List.mem_replicate.1 h).2]; omega
theorem rgtD_1 {m : List Int} {w s i : Nat} : ((m.getD (w + i) 0 + 4294967296 * m.getD (w + i + 1) 0) / 2 ^ s) % 4294967296 = rgtD m w s i := rfl
theorem rgtD_2 {m : List Int} {w s i : Nat} (h : ¬ ((w : Int) + (i : Int) + 1 < (m.length : Int))) : (m.getD (w + i) 0 / 2 ^ s) % 4294967296 = rgtD m w s i := by
 unfold rgtD
 rw [getD_over (show m.length ≤ w + i + 1 by omega), Int.mul_zero, Int.add_zero]
theorem bl_limbs {n : Nat} (h : (limbs n).length = 0) : 0 = (bl n : Int) := by rw [limbs_len0] at h; rw [h]; rfl
theorem bl_limbs2 {n : Nat} (h : ¬ (limbs n).length = 0) : 32 * (((limbs n).length : Int) - 1) + (bl ((limbs n).getD ((limbs n).length - 1 : Int).toNat 0).toNat : Int) = (bl n : Int) := by
 rw [bl_top n, if_neg h, show ((limbs n).length - 1 : Int).toNat = (limbs n).length - 1 by omega]
theorem set_1 {x : Int} : sgnI (decide (x < 0)) x.natAbs = x := by
 unfold sgnI
 by_cases h : x < 0
 ·rw [if_pos (by simpa using h)]; omega
 ·rw [if_neg (by simpa using h)]; omega
theorem bit_0 {x : Nat} (h : ¬ (0 : Int) < (limbs x).length) : x = 0 := limbs_len0.1 (by omega)
theorem bit_and (x : Nat) : bitsOf .and .u32 ((limbs x).getD 0 0) 1 = ((x % 2 : Nat) : Int) := by
 rw [limbs_0]
 have h := Nat.mod_lt x (show 0 < 4294967296 by decide)
 have e1 : (BitVec.ofInt 32 ((x % 4294967296 : Nat) : Int)).toNat = x % 4294967296 := by simp [BitVec.toNat_ofInt]; omega
 have e3 : bitsOf .and .u32 ((x % 4294967296 : Nat) : Int) 1 = IntKind.u32.wrap (((BitVec.ofInt 32 ((x % 4294967296 : Nat) : Int)) &&& (BitVec.ofInt 32 (1 : Int))).toNat : Int) := rfl
 rw [e3, BitVec.toNat_and, e1]
 rw [show (BitVec.ofInt 32 (1 : Int)).toNat = 2 ^ 1 - 1 by decide, and_pow, wr32]
 omega
theorem u64_1 {x : Nat} (h : ¬ (1 : Int) < (limbs x).length) : (limbs x).getD 0 0 = (x : Int) := by
 rw [limbs_0, Nat.mod_eq_of_lt (limbs_lt1 (by omega))]
theorem u64_2 {x : Nat} (hx : x < 18446744073709551616) : (limbs x).getD 0 0 + 4294967296 * (limbs x).getD 1 0 = (x : Int) := by
 rw [limbs_0, limbs_1]
 omega
theorem wrI_nat {z : Int} (h0 : 0 ≤ z) (h1 : z < 9223372036854775808) : IntKind.i64.wrap z = ((z.toNat : Nat) : Int) := by rw [zO (by omega) (by omega)]; omega
theorem sumA_1 {x y : Int} (hx : 0 ≤ x) (hy : 0 ≤ y) : sgnI (decide (y < 0) != false) (x.natAbs + y.natAbs) = x + y := by
 unfold sgnI
 rw [show decide (y < 0) = false by simp; omega]
 show ((x.natAbs + y.natAbs : Nat) : Int) = _
 omega
theorem up_eq (q : Nat) (c : Int) : (cmpB .gtr c 0 || (cmpB .eql c 0 && cmpB .eql ((q % 2 : Nat) : Int) 1)) = upB q c := by
 unfold upB cmpB
 have h1 : (((q % 2 : Nat) : Int) == 1) = decide (q % 2 = 1) := by
  rw [Bool.eq_iff_iff]; simp; omega
 have h2 : (c == 0) = decide (c = 0) := rfl
 show (decide (0 < c) || ((c == 0) && (((q % 2 : Nat) : Int) == 1))) = _
 rw [h1, h2]
theorem sml_low (m s : Nat) (hm : m < 18446744073709551616) : Sml (((m / 2 ^ s : Nat) : Int) * 2 ^ s) := by
 have : (2 : Int) ^ s = ((2 ^ s : Nat) : Int) := by simp
 rw [this, ← Int.natCast_mul]
 have h2 := Nat.div_mul_le_self m (2 ^ s)
 exact sml_of (by omega)
theorem half_nat (s : Nat) : (1 : Int) * 2 ^ s = ((2 ^ s : Nat) : Int) := by simp
theorem put_or {n f : Nat} (hn : n < 2048) (hf : f < 4503599627370496) : bitsOf .or .u64 ((n * 4503599627370496 : Nat) : Int) ((f : Nat) : Int) = ((n * 4503599627370496 + f : Nat) : Int) := by
 rw [bits_or _ _ (by omega) (by omega)]
 congr 1
 rw [show (4503599627370496 : Nat) = 2 ^ 52 by decide, or_add _ _ _ (by omega)]
theorem put_top {n f : Nat} (hn : n < 2048) (hf : f < 4503599627370496) : bitsOf .or .u64 ((n * 4503599627370496 + f : Nat) : Int) 9223372036854775808 = ((putW true n f : Nat) : Int) := by
 have e : (9223372036854775808 : Int) = ((2 ^ 63 : Nat) : Int) := by decide
 rw [e, bits_or _ _ (by omega) (by decide), Nat.or_comm]
 congr 1
 have := or_add 1 (n * 4503599627370496 + f) 63 (by omega)
 rw [Nat.one_mul] at this
 rw [this]
 rfl
theorem put_no {n f : Nat} : ((n * 4503599627370496 + f : Nat) : Int) = ((putW false n f : Nat) : Int) := by
 unfold putW sgb
 simp
theorem and_frac (x : Nat) (hx : x < 2 ^ 64) : bitsOf .and .u64 ((x : Nat) : Int) 4503599627370495 = ((x % 4503599627370496 : Nat) : Int) := by
 rw [show (4503599627370495 : Int) = ((2 ^ 52 - 1 : Nat) : Int) by decide, bits_and _ _ hx (by decide), and_pow]
theorem and_expo (b : Nat) (hb : b < 2 ^ 64) : bitsOf .and .u64 ((b / 2 ^ 52 : Nat) : Int) 2047 = ((expo b : Nat) : Int) := by
 rw [show (2047 : Int) = ((2 ^ 11 - 1 : Nat) : Int) by decide, bits_and _ _ (Nat.lt_of_le_of_lt (Nat.div_le_self ..) hb) (by decide), and_pow]
 rfl
theorem and_sign (b : Nat) (hb : b < 2 ^ 64) : cmpB .eql (bitsOf .and .u64 ((b / 2 ^ 63 : Nat) : Int) 1) 1 = sgn b := by
 rw [show (1 : Int) = ((2 ^ 1 - 1 : Nat) : Int) by decide, bits_and _ _ (Nat.lt_of_le_of_lt (Nat.div_le_self ..) hb) (by decide), and_pow]
 unfold cmpB sgn
 show decide (((b / 2 ^ 63 % 2 : Nat) : Int) = 1) = (b / 9223372036854775808 % 2 == 1)
 rw [show (2 : Nat) ^ 63 = 9223372036854775808 by decide]
 cases h : (b / 9223372036854775808 % 2 == 1)
 ·simp at h ⊢; omega
 ·simp at h ⊢; omega
theorem or_frac (b : Nat) : bitsOf .or .u64 ((frac b : Nat) : Int) 4503599627370496 = ((frac b + 4503599627370496 : Nat) : Int) := by
 have hf := frac_lt b
 rw [show (4503599627370496 : Int) = ((4503599627370496 : Nat) : Int) by rfl, bits_or _ _ (by omega) (by decide), Nat.or_comm]
 congr 1
 have := or_add 1 (frac b) 52 (by omega)
 rw [Nat.one_mul] at this
 rw [show (4503599627370496 : Nat) = 2 ^ 52 by decide, this]
 omega
structure Nm where
 k : Int
 s : Bool
 m : Nat
 e : Int
abbrev numP (n : Nm) : SP := aggp [isv (.int .i64 n.k), isv (.bool n.s), intP (n.m : Int), isv (.int .i64 n.e)]
abbrev dblP : SP := aggp [isv (.int .i64 53), isv (.int .i64 (-1022)), isv (.int .i64 1023), isv (.int .i64 11)]
def takN (b : Nat) : Nm := if expo b = 2047 then (if frac b ≠ 0 then ⟨2, false, 0, 0⟩ else ⟨1, sgn b, 0, -1074⟩) else ⟨0, sgn b, mgn b, plc b⟩
def samW (n : Nm) : Nat := if n.k = 2 then NAN else if n.k = 1 then putW n.s 2047 0 else if n.m = 0 then putW n.s 0 0 else Ieee.double.nearest n.s n.m n.e
def sclM (n : Nm) (k : Int) : Nm := if n.k = 0 then ⟨n.k, n.s, n.m, n.e + max (-5000) (min k 5000)⟩ else n
def sclW (b : Nat) (k : Int) : Nat := samW (sclM (takN b) k)
theorem takN_k (b : Nat) : (takN b).k = 0 ∨ (takN b).k = 1 ∨ (takN b).k = 2 := by unfold takN; split <;> (try split) <;> simp
theorem takN_m (b : Nat) : (takN b).m < 18446744073709551616 ∧ -1074 ≤ (takN b).e ∧ (takN b).e ≤ 2000 := by
 have h1 := mgn_lt b
 have h2 := plc_ge b
 have h3 : plc b ≤ 2000 := by
  have h4 := expo_lt b
  by_cases h : expo b = 0
  ·rw [(mgn_0 h).2]; omega
  ·rw [(mgn_1 (by omega)).2]; omega
 unfold takN
 split
 ·split
  ·exact ⟨by show 0 < _; decide, by show (-1074 : Int) ≤ 0; decide, by show (0 : Int) ≤ 2000; decide⟩
  ·exact ⟨by show 0 < _; decide, by show (-1074 : Int) ≤ -1074; decide, by show (-1074 : Int) ≤ 2000; decide⟩
 ·exact ⟨by show mgn b < _; omega, h2, h3⟩
theorem take_nan {b : Nat} (h1 : expo b = 2047) (h2 : frac b ≠ 0) : takN b = ⟨2, false, 0, 0⟩ := by unfold takN; rw [if_pos h1, if_pos h2]
theorem take_inf {b : Nat} (h1 : expo b = 2047) (h2 : frac b = 0) : takN b = ⟨1, sgn b, frac b, -1074⟩ := by unfold takN; rw [if_pos h1, if_neg (by simpa using h2), h2]
theorem take_sub {b : Nat} (h1 : expo b = 0) : takN b = ⟨0, sgn b, frac b, -1074⟩ := by
 unfold takN; rw [if_neg (by omega), (mgn_0 h1).1, (mgn_0 h1).2]
theorem take_nrm {b : Nat} (h1 : ¬ expo b = 2047) (h2 : 0 < expo b) : takN b = ⟨0, sgn b, frac b + 4503599627370496, (expo b : Int) - 1 - 1074⟩ := by
 unfold takN; rw [if_neg h1, (mgn_1 h2).1, (mgn_1 h2).2]
theorem intP_zero : intP 0 = ptp [isv (.bool false), ils .u32 []] := by
 show ptp [isv (.bool (decide ((0 : Int) < 0))), ils .u32 (limbs (0 : Int).natAbs)] = _
 rw [show (0 : Int).natAbs = 0 from rfl, limbs_zero]
 rfl
theorem cutC_no {m s : Nat} (h : m % 2 ^ s = 0) : cutC m s = -2 := if_pos h
theorem cutC_yes {m s : Nat} (h : ¬ m % 2 ^ s = 0) : cutC m s = cmpN (m % 2 ^ s) (2 ^ (s - 1)) := if_neg h
theorem low_rest (m s : Nat) : ((m : Int)) - ((m / 2 ^ s : Nat) : Int) * 2 ^ s = ((m % 2 ^ s : Nat) : Int) := by
 have h := Nat.div_add_mod m (2 ^ s)
 have : (2 : Int) ^ s = ((2 ^ s : Nat) : Int) := by simp
 rw [this, ← Int.natCast_mul, Nat.mul_comm]
 omega
theorem up_no {q : Nat} : upB q (-2) = false := by unfold upB; simp
theorem k_two {K : Nat} (h : K ≤ 9007199254740992) (hb : (53 : Int) < (bl K : Int)) : K = 9007199254740992 := by
 by_cases hc : K < 9007199254740992
 ·have := bl_lt (t := K) (k := 53) hc
  omega
 ·omega
theorem k_lt {K : Nat} (hb : (bl K : Int) ≤ 53) : K < 9007199254740992 := bl_le (t := K) (k := 53) (by omega)
theorem k_small {K : Nat} (hb : (bl K : Int) < 53) : K < 4503599627370496 := bl_le (t := K) (k := 52) (by omega)
theorem k_big {K : Nat} (hb : ¬ (bl K : Int) < 53) : 4503599627370496 ≤ K := by
 by_cases hc : K < 4503599627370496
 ·have := bl_lt (t := K) (k := 52) hc
  omega
 ·omega
theorem bl_half : bl 4503599627370496 = 53 := by decide +kernel
theorem nat_mul2 (m k : Nat) : (m : Int) * 2 ^ k = ((m * 2 ^ k : Nat) : Int) := by simp
theorem kpt_hi {neg : Bool} {m : Nat} {e : Int} (h : qtm m e ≤ e) : kpt neg m e = if upB (m * 2 ^ (e - qtm m e).toNat) (-2) = true then m * 2 ^ (e - qtm m e).toNat + 1 else m * 2 ^ (e - qtm m e).toNat := by
 unfold kpt
 rw [if_pos h, if_neg (by rw [up_no]; decide)]
theorem kpt_lo {neg : Bool} {m : Nat} {e : Int} (hm : m ≠ 0) (h : ¬ qtm m e ≤ e) : kpt neg m e = if upB (m / 2 ^ (qtm m e - e).toNat) (cutC m (qtm m e - e).toNat) = true then m / 2 ^ (qtm m e - e).toNat + 1 else m / 2 ^ (qtm m e - e).toNat := by
 unfold kpt
 rw [if_neg h, cut_low hm (by omega)]
theorem sam_nan {n : Nm} (h : n.k = 2) : samW n = NAN := by unfold samW; rw [if_pos h]
theorem sam_inf {n : Nm} (h : n.k = 1) : samW n = putW n.s 2047 0 := by unfold samW; rw [if_neg (by omega), if_pos h]
theorem sam_zero {n : Nm} (h : n.k = 0) (h2 : n.m = 0) : samW n = putW n.s 0 0 := by unfold samW; rw [if_neg (by omega), if_neg (by omega), if_pos h2]
theorem sam_fin {n : Nm} (h : n.k = 0) (h2 : n.m ≠ 0) : samW n = Ieee.double.nearest n.s n.m n.e := by unfold samW; rw [if_neg (by omega), if_neg (by omega), if_neg h2]
theorem scl_at {b : Nat} {k : Int} (h : (takN b).k = 0) : sclW b k = samW ⟨(takN b).k, (takN b).s, (takN b).m, (takN b).e + max (-5000) (min k 5000)⟩ := by unfold sclW sclM; rw [if_pos h]
theorem scl_no {b : Nat} {k : Int} (h : ¬ (takN b).k = 0) : sclW b k = samW (takN b) := by unfold sclW sclM; rw [if_neg h]
end Go.Bn
