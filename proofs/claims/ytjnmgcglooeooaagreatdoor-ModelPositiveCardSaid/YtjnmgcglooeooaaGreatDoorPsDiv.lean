/-
 Long division of words (Knuth's way): what each step comes to.
-/
import Derived.Test.YtjnmgcglooeooaaGreatDoorPsRnd
set_option linter.unusedVariables false
set_option linter.unusedSimpArgs false
namespace Go.Bn
open Go
theorem quo64 {t d : Int} (h0 : 0 ≤ t) (h1 : t < 18446744073709551616) (hd : 0 < d) : IntKind.u64.wrap (t.tdiv d) = t / d := by
 rw [Int.tdiv_eq_ediv_of_nonneg h0]
 have q0 : 0 ≤ t / d := Int.ediv_nonneg h0 (by omega)
 have q1 : t / d ≤ t := by
  have := Int.ediv_le_self d h0
  exact this
 exact wr64 q0 (by omega)
theorem rem64 {t d : Int} (h0 : 0 ≤ t) : t.tmod d = t % d := Int.tmod_eq_emod_of_nonneg h0
theorem hi64 {x y : Int} (hx : 0 ≤ x ∧ x < 4294967296) (hy : 0 ≤ y ∧ y < 4294967296) : bitsOf .or .u64 (IntKind.u64.wrap (x * 2 ^ min (32 : Int).toNat IntKind.u64.bits)) y = x * 4294967296 + y := by
 obtain ⟨a, rfl⟩ : ∃ n : Nat, x = n := ⟨x.toNat, by omega⟩
 obtain ⟨b, rfl⟩ : ∃ n : Nat, y = n := ⟨y.toNat, by omega⟩
 have e : IntKind.u64.wrap ((a : Int) * 2 ^ min (32 : Int).toNat IntKind.u64.bits) = ((a * 2 ^ 32 : Nat) : Int) := by
  rw [show min (32 : Int).toNat IntKind.u64.bits = 32 by decide, wu64]
  have : ((2 : Int) ^ 32) = 4294967296 := by decide
  have h2 : (2 : Nat) ^ 32 = 4294967296 := by decide
  rw [this, h2]
  omega
 have h2 : (2 : Nat) ^ 32 = 4294967296 := by decide
 rw [e, bits_or _ _ (by omega) (by omega), or_add a b 32 (by omega)]
 omega
theorem and64 {p : Int} (h0 : 0 ≤ p) (h1 : p < 18446744073709551616) : bitsOf .and .u64 p 4294967295 = p % 4294967296 := by
 obtain ⟨a, rfl⟩ : ∃ n : Nat, p = n := ⟨p.toNat, by omega⟩
 show IntKind.u64.wrap ((BitVec.ofInt 64 (a : Int) &&& BitVec.ofInt 64 ((4294967295 : Nat) : Int)).toNat : Int) = _
 rw [BitVec.toNat_and, ofInt_toNat a (by omega), ofInt_toNat 4294967295 (by omega), show (4294967295 : Nat) = 2 ^ 32 - 1 by decide, Nat.and_two_pow_sub_one_eq_mod, wr64 (by omega) (by omega)]
 omega
theorem magI_drop {l : List Int} {k : Nat} (hk : k < l.length) : magI (l.drop k) = l.getD k 0 + 4294967296 * magI (l.drop (k + 1)) := by
 rw [List.drop_eq_getElem_cons hk, magI, List.getD, List.getElem?_eq_getElem hk]
 rfl
theorem magI_out {l : List Int} {k : Nat} (hk : l.length ≤ k) : magI (l.drop k) = 0 := by rw [List.drop_of_length_le hk]; rfl
theorem magI_cut (l : List Int) (k : Nat) (hk : k ≤ l.length) : magI l = magI (l.take k) + wpw k * magI (l.drop k) := by
 have h := magI_append (l.take k) (l.drop k)
 rw [List.take_append_drop, List.length_take, Nat.min_eq_left hk] at h
 exact h
theorem drop_set_lt {l : List Int} {i k : Nat} {v : Int} (h : i < k) : (l.set i v).drop k = l.drop k := by
 apply List.ext_getElem?
 intro j
 rw [List.getElem?_drop, List.getElem?_drop, List.getElem?_set_ne (by omega)]
theorem drop_set_ge (l : List Int) (j i : Nat) (v : Int) : (l.set (j + i) v).drop j = (l.drop j).set i v := by
 apply List.ext_getElem?
 intro k
 rw [List.getElem?_drop]
 by_cases e : i = k
 ·subst e
  by_cases hl : j + i < l.length
  ·rw [List.getElem?_set_self hl, List.getElem?_set_self (by rw [List.length_drop]; omega)]
  ·rw [List.getElem?_eq_none (by rw [List.length_set]; omega), List.getElem?_eq_none (by rw [List.length_set, List.length_drop]; omega)]
 ·rw [List.getElem?_set_ne (by omega), List.getElem?_set_ne e, List.getElem?_drop]
theorem take_set_ge {l : List Int} {i k : Nat} {v : Int} (h : k ≤ i) : (l.set i v).take k = l.take k := by
 apply List.ext_getElem?
 intro j
 rw [List.getElem?_take, List.getElem?_take]
 split
 ·rw [List.getElem?_set_ne (by omega)]
 ·rfl
theorem getD_dropI (l : List Int) (j i : Nat) : (l.drop j).getD i 0 = l.getD (j + i) 0 := by rw [List.getD, List.getD, List.getElem?_drop]
theorem dig_uniq : ∀ {a b : List Int}, Dig a → Dig b → a.length = b.length → magI a = magI b → a = b
 | [], [], _, _, _, _ => rfl
 | [], _ :: _, _, _, h, _ => by simp at h
 | _ :: _, [], _, _, h, _ => by simp at h
 | x :: a, y :: b, ha, hb, hl, hm => by
  rw [magI, magI] at hm
  have h1 := ha.head
  have h2 := hb.head
  have e : x = y := by omega
  have e2 : magI a = magI b := by omega
  rw [e, dig_uniq ha.tail hb.tail (by simpa using hl) e2]
structure ShoI (m l : List Int) (d : Int) (k : Nat) (r : Int) : Prop where
 hl : l.length = m.length
 hd : Dig l
 hk : k ≤ m.length
 hr : 0 ≤ r ∧ r < d
 hv : magI (l.drop k) * d + r = magI (m.drop k)
theorem sho_zero {m : List Int} {d : Int} (hd : 0 < d) : ShoI m (List.replicate m.length 0) d m.length 0 where
 hl := List.length_replicate
 hd := dig_rep _
 hk := Nat.le_refl _
 hr := ⟨by omega, hd⟩
 hv := by rw [magI_out (by rw [List.length_replicate]; exact Nat.le_refl _), magI_out (Nat.le_refl _)]; omega
theorem sho_step {m l : List Int} {d r t : Int} {j : Nat} (hm : Dig m) (hd : 0 < d) (h : ShoI m l d (j + 1) r) (ht : t = r * 4294967296 + m.getD j 0) : ShoI m (l.set j (t / d)) d j (t % d) ∧ 0 ≤ t / d ∧ t / d < 4294967296 ∧ 0 ≤ t ∧ t < d * 4294967296 := by
 have hk := h.hk
 have hl := h.hl
 obtain ⟨r0, r1⟩ := h.hr
 have hx := hm.at (k := j) (by omega)
 have t0 : 0 ≤ t := by omega
 have t1 : t < d * 4294967296 := by omega
 have q0 : 0 ≤ t / d := Int.ediv_nonneg t0 (by omega)
 have q1 : t / d < 4294967296 := Int.ediv_lt_of_lt_mul hd (by rw [Int.mul_comm]; exact t1)
 have e := Int.mul_ediv_add_emod t d
 have m0 := Int.emod_nonneg t (show d ≠ 0 by omega)
 have m1 := Int.emod_lt_of_pos t hd
 refine ⟨⟨by rw [List.length_set]; exact hl, h.hd.set ⟨q0, q1⟩, by omega, ⟨m0, m1⟩, ?_⟩, q0, q1, t0, t1⟩
 have hv := h.hv
 rw [magI_drop (l := l.set j (t / d)) (by rw [List.length_set]; omega), drop_set_lt (by omega), getD_set_eq (by omega), magI_drop (l := m) (by omega)]
 generalize t / d = q at *
 generalize t % d = s at *
 generalize magI (l.drop (j + 1)) = L at *
 generalize magI (m.drop (j + 1)) = M at *
 grind
theorem sho_done {m l : List Int} {d r : Int} (hd : 0 < d) (h : ShoI m l d 0 r) : magI l = magI m / d ∧ r = magI m % d := by
 have hv := h.hv
 obtain ⟨r0, r1⟩ := h.hr
 rw [List.drop_zero, List.drop_zero] at hv
 rw [← hv, Int.add_comm]
 constructor
 ·rw [Int.add_mul_ediv_right _ _ (by omega), Int.ediv_eq_zero_of_lt r0 r1]; omega
 ·rw [Int.add_mul_emod_self_right, Int.emod_eq_of_lt r0 r1]
def segI (l : List Int) (j n : Nat) : Int := magI ((l.drop j).take n)
theorem segI_rng {l : List Int} (h : Dig l) (j n : Nat) (hn : j + n ≤ l.length) : 0 ≤ segI l j n ∧ segI l j n < wpw n := by
 have h1 := (h.drop j).take n
 have h2 := magI_lt h1
 rw [List.length_take, List.length_drop, Nat.min_eq_left (by omega)] at h2
 exact ⟨magI_nonneg h1, h2⟩
theorem segI_succ {l : List Int} {j n : Nat} (hn : j + n < l.length) : segI l j (n + 1) = segI l j n + wpw n * l.getD (j + n) 0 := by
 unfold segI
 rw [magI_take (l := l.drop j) (by rw [List.length_drop]; omega), getD_dropI]
theorem segI_set {l : List Int} {j n : Nat} {v : Int} (hn : j + n < l.length) : segI (l.set (j + n) v) j (n + 1) = segI l j n + wpw n * v := by
 unfold segI
 rw [drop_set_ge, magI_set (by rw [List.length_drop]; omega)]
structure LesI (u d l : List Int) (j : Nat) (g : Int) (i : Nat) (c b : Int) : Prop where
 hl : l.length = u.length
 hd : Dig l
 ht : l.take j = u.take j
 hr : ∀ k, j + i ≤ k → l.getD k 0 = u.getD k 0
 hi : i ≤ d.length
 hc : 0 ≤ c ∧ c < 4294967296
 hb : b = 0 ∨ b = 1
 hv : segI l j i = segI u j i - g * magI (d.take i) + wpw i * (c + b)
theorem les_zero {u d : List Int} {j : Nat} {g : Int} (hu : Dig u) : LesI u d u j g 0 0 0 where
 hl := rfl
 hd := hu
 ht := rfl
 hr := fun _ _ => rfl
 hi := Nat.zero_le _
 hc := ⟨by omega, by omega⟩
 hb := .inl rfl
 hv := by
  unfold segI
  simp only [List.take_zero]
  show (0 : Int) = 0 - g * 0 + wpw 0 * (0 + 0)
  omega
theorem les_step {u d l : List Int} {j i : Nat} {g c b p y v b' : Int} (hd : Dig d) (hg : 0 ≤ g ∧ g ≤ 4294967296) (h : LesI u d l j g i c b) (hi : i < d.length) (hn : j + d.length < u.length) (hp : p = g * d.getD i 0 + c) (hy : y = p % 4294967296 + b) (hb' : b' = 0 ∨ b' = 1) (hv : v = l.getD (j + i) 0 - y + 4294967296 * b') (h0 : 0 ≤ v ∧ v < 4294967296) :
  LesI u d (l.set (j + i) v) j g (i + 1) (p / 4294967296) b' where
 hl := by rw [List.length_set]; exact h.hl
 hd := h.hd.set h0
 ht := by rw [take_set_ge (by omega)]; exact h.ht
 hr := fun k hk => by rw [getD_set_ne (by omega)]; exact h.hr k (by omega)
 hi := hi
 hc := by
  have hx := hd.at (k := i) hi
  obtain ⟨c0, c1⟩ := h.hc
  have p0 : 0 ≤ g * d.getD i 0 := Int.mul_nonneg hg.1 hx.1
  have p1 : g * d.getD i 0 ≤ 4294967296 * 4294967295 := Int.mul_le_mul hg.2 (by omega) hx.1 (by omega)
  generalize g * d.getD i 0 = z at *
  omega
 hb := hb'
 hv := by
  have hlen := h.hl
  have e0 := h.hr (j + i) (Nat.le_refl _)
  rw [segI_set (by omega), segI_succ (l := u) (by omega), magI_take hi, wpw_succ, h.hv, hv, e0, hy, hp]
  have e := Int.mul_ediv_add_emod (g * d.getD i 0 + c) 4294967296
  generalize (g * d.getD i 0 + c) / 4294967296 = q at *
  generalize (g * d.getD i 0 + c) % 4294967296 = s at *
  generalize u.getD (j + i) 0 = x at *
  generalize d.getD i 0 = w at *
  generalize magI (d.take i) = D at *
  generalize segI u j i = U at *
  generalize wpw i = B at *
  grind
def digs : Nat → Int → List Int
 | 0, _ => []
 | n + 1, v => v % 4294967296 :: digs n (v / 4294967296)
theorem digs_len : ∀ (n : Nat) (v : Int), (digs n v).length = n
 | 0, _ => rfl
 | n + 1, v => by rw [digs, List.length_cons, digs_len n]
theorem digs_dig : ∀ (n : Nat) (v : Int), Dig (digs n v)
 | 0, _ => dig_nil
 | n + 1, v => fun z hz => by
  rw [digs] at hz
  rcases List.mem_cons.1 hz with e | e
  ·subst e; omega
  ·exact digs_dig n _ z e
theorem digs_mag : ∀ {n : Nat} {v : Int}, 0 ≤ v → v < wpw n → magI (digs n v) = v
 | 0, v, h0, h1 => by rw [wpw_zero] at h1; show (0 : Int) = v; omega
 | n + 1, v, h0, h1 => by
  rw [wpw_succ] at h1
  rw [digs, magI, digs_mag (n := n) (by omega) (by omega)]
  omega
def putI (u : List Int) (j n : Nat) (v : Int) : List Int := u.take j ++ (digs n v ++ u.drop (j + n))
theorem putI_len {u : List Int} {j n : Nat} {v : Int} (h : j + n ≤ u.length) : (putI u j n v).length = u.length := by
 unfold putI
 rw [List.length_append, List.length_append, List.length_take, digs_len, List.length_drop]
 omega
theorem putI_dig {u : List Int} (hu : Dig u) (j n : Nat) (v : Int) : Dig (putI u j n v) := fun z hz => by
 unfold putI at hz
 rcases List.mem_append.1 hz with e | e
 ·exact hu z (List.mem_of_mem_take e)
 ·rcases List.mem_append.1 e with e | e
  ·exact digs_dig n v z e
  ·exact hu z (List.mem_of_mem_drop e)
theorem putI_mag {u : List Int} {j n : Nat} {v : Int} (h : j + n ≤ u.length) (h0 : 0 ≤ v) (h1 : v < wpw n) : magI (putI u j n v) = magI u - wpw j * segI u j n + wpw j * v := by
 have e1 := magI_cut u j (by omega)
 have e2 := magI_cut (u.drop j) n (by rw [List.length_drop]; omega)
 rw [List.drop_drop] at e2
 unfold putI
 rw [magI_append, magI_append, digs_mag h0 h1, digs_len, List.length_take, Nat.min_eq_left (by omega), e1, e2]
 unfold segI
 generalize magI ((u.drop j).take n) = s at *
 generalize magI (u.drop (j + n)) = t at *
 generalize wpw j = B at *
 generalize wpw n = C at *
 grind
theorem putI_of {u l : List Int} {j n : Nat} {v : Int} (hl : l.length = u.length) (hd : Dig l) (hn : j + n ≤ u.length) (ht : l.take j = u.take j) (hr : ∀ k, j + n ≤ k → l.getD k 0 = u.getD k 0) (hv : segI l j n = v) : l = putI u j n v := by
 have e : l = l.take j ++ ((l.drop j).take n ++ l.drop (j + n)) := by
  rw [show l.drop (j + n) = (l.drop j).drop n by rw [List.drop_drop], List.take_append_drop, List.take_append_drop]
 have h1 := segI_rng hd j n (by omega)
 have e1 : (l.drop j).take n = digs n v := by
  refine dig_uniq ((hd.drop j).take n) (digs_dig n v) (by rw [List.length_take, List.length_drop, digs_len]; omega) ?_
  rw [digs_mag (by rw [← hv]; exact h1.1) (by rw [← hv]; exact h1.2)]
  exact hv
 have e2 : l.drop (j + n) = u.drop (j + n) := by
  apply List.ext_getElem?
  intro k
  rw [List.getElem?_drop, List.getElem?_drop]
  have := hr (j + n + k) (by omega)
  rw [List.getD, List.getD] at this
  by_cases hk : j + n + k < u.length
  ·rw [List.getElem?_eq_getElem hk, List.getElem?_eq_getElem (show j + n + k < l.length by omega)] at this ⊢
   simpa using this
  ·rw [List.getElem?_eq_none (by omega), List.getElem?_eq_none (by omega)]
 rw [e, ht, e1, e2]
 rfl
def lesV (u d : List Int) (j : Nat) (g : Int) : Int := segI u j (d.length + 1) - g * magI d
def lesL (u d : List Int) (j : Nat) (g : Int) : List Int := putI u j (d.length + 1) (lesV u d j g + if lesV u d j g < 0 then wpw (d.length + 1) else 0)
theorem les_done {u d l : List Int} {j : Nat} {g c b x y : Int} (hu : Dig u) (h : LesI u d l j g d.length c b) (hn : j + d.length < u.length) (hx : x = l.getD (j + d.length) 0) (hy : y = c + b) :
  l.set (j + d.length) ((x - y) % 4294967296) = lesL u d j g ∧ (x < y ↔ lesV u d j g < 0) := by
 have hlen := h.hl
 obtain ⟨c0, c1⟩ := h.hc
 have hb := h.hb
 have e0 := h.hr (j + d.length) (Nat.le_refl _)
 have hx0 := hu.at (k := j + d.length) (by omega)
 have hw : lesV u d j g = segI l j d.length + wpw d.length * (x - y) := by
  unfold lesV
  rw [segI_succ hn, h.hv, List.take_length, hx, hy, e0]
  generalize magI d = D
  generalize segI u j d.length = U
  generalize wpw d.length = B
  generalize u.getD (j + d.length) 0 = z
  grind
 have hs := segI_rng h.hd j d.length (by omega)
 have hB := wpw_pos d.length
 have sgn : x < y ↔ lesV u d j g < 0 := by
  rw [hw]
  constructor
  ·intro hxy
   have : wpw d.length * (x - y) ≤ wpw d.length * (-1) := Int.mul_le_mul_of_nonneg_left (by omega) (by omega)
   omega
  ·intro hneg
   refine Classical.byContradiction fun hc => ?_
   have : 0 ≤ wpw d.length * (x - y) := Int.mul_nonneg (by omega) (by omega)
   omega
 refine ⟨?_, sgn⟩
 unfold lesL
 refine putI_of (by rw [List.length_set]; exact hlen) (h.hd.set ⟨by omega, by omega⟩) (by omega) (by rw [take_set_ge (by omega)]; exact h.ht) (fun k hk => by rw [getD_set_ne (by omega)]; exact h.hr k (by omega)) ?_
 rw [segI_set (by omega)]
 by_cases hxy : x < y
 ·rw [if_pos (sgn.1 hxy), hw, show (x - y) % 4294967296 = x - y + 4294967296 by omega, wpw_succ, Int.mul_add]
  generalize wpw d.length * (x - y) = z
  omega
 ·rw [if_neg (fun h => hxy (sgn.2 h)), hw, show (x - y) % 4294967296 = x - y by omega]
  omega
structure MorI (u d l : List Int) (j : Nat) (i : Nat) (c : Int) : Prop where
 hl : l.length = u.length
 hd : Dig l
 ht : l.take j = u.take j
 hr : ∀ k, j + i ≤ k → l.getD k 0 = u.getD k 0
 hi : i ≤ d.length
 hc : 0 ≤ c ∧ c ≤ 1
 hv : segI l j i + wpw i * c = segI u j i + magI (d.take i)
theorem mor_zero {u d : List Int} {j : Nat} (hu : Dig u) : MorI u d u j 0 0 where
 hl := rfl
 hd := hu
 ht := rfl
 hr := fun _ _ => rfl
 hi := Nat.zero_le _
 hc := ⟨by omega, by omega⟩
 hv := by
  unfold segI
  rw [List.take_zero, List.take_zero]
  show (0 : Int) + wpw 0 * 0 = 0 + 0
  omega
theorem mor_step {u d l : List Int} {j i : Nat} {c t : Int} (hd : Dig d) (h : MorI u d l j i c) (hi : i < d.length) (hn : j + d.length < u.length) (ht : t = l.getD (j + i) 0 + d.getD i 0 + c) : MorI u d (l.set (j + i) (t % 4294967296)) j (i + 1) (t / 4294967296) where
 hl := by rw [List.length_set]; exact h.hl
 hd := h.hd.set ⟨by omega, by omega⟩
 ht := by rw [take_set_ge (by omega)]; exact h.ht
 hr := fun k hk => by rw [getD_set_ne (by omega)]; exact h.hr k (by omega)
 hi := hi
 hc := by
  have hx := hd.at (k := i) hi
  have hlen := h.hl
  have hy := h.hd.at (k := j + i) (by omega)
  have := h.hc
  omega
 hv := by
  have hlen := h.hl
  have e0 := h.hr (j + i) (Nat.le_refl _)
  have hv := h.hv
  rw [segI_set (by omega), segI_succ (l := u) (by omega), magI_take hi, wpw_succ]
  have e := Int.mul_ediv_add_emod t 4294967296
  rw [ht, e0] at e
  rw [ht, e0]
  generalize (u.getD (j + i) 0 + d.getD i 0 + c) / 4294967296 = q at *
  generalize (u.getD (j + i) 0 + d.getD i 0 + c) % 4294967296 = s at *
  generalize u.getD (j + i) 0 = x at *
  generalize d.getD i 0 = w at *
  generalize magI (d.take i) = D at *
  generalize segI u j i = U at *
  generalize segI l j i = L at *
  generalize wpw i = B at *
  grind
def morL (u d : List Int) (j : Nat) : List Int := putI u j (d.length + 1) ((segI u j (d.length + 1) + magI d) % wpw (d.length + 1))
theorem mor_done {u d l : List Int} {j : Nat} {c : Int} (hu : Dig u) (h : MorI u d l j d.length c) (hn : j + d.length < u.length) : l.set (j + d.length) ((l.getD (j + d.length) 0 + c) % 4294967296) = morL u d j := by
 have hlen := h.hl
 obtain ⟨c0, c1⟩ := h.hc
 have e0 := h.hr (j + d.length) (Nat.le_refl _)
 have hx0 := hu.at (k := j + d.length) (by omega)
 have hs := segI_rng h.hd j d.length (by omega)
 have hB := wpw_pos d.length
 unfold morL
 refine putI_of (by rw [List.length_set]; exact hlen) (h.hd.set ⟨by omega, by omega⟩) (by omega) (by rw [take_set_ge (by omega)]; exact h.ht) (fun k hk => by rw [getD_set_ne (by omega)]; exact h.hr k (by omega)) ?_
 have hv := h.hv
 rw [List.take_length] at hv
 rw [segI_set (by omega), segI_succ hn, e0, wpw_succ]
 generalize u.getD (j + d.length) 0 = x at *
 have hz : segI u j d.length + wpw d.length * x + magI d = segI l j d.length + wpw d.length * (x + c) := by
  generalize magI d = D at *
  generalize segI u j d.length = U at *
  generalize segI l j d.length = L at *
  generalize wpw d.length = B at *
  grind
 rw [hz]
 generalize segI l j d.length = L at *
 generalize wpw d.length = B at *
 have hq : (x + c) % 4294967296 = x + c ∨ (x + c) % 4294967296 = x + c - 4294967296 ∧ x + c = 4294967296 := by omega
 rcases hq with hq | ⟨hq, hq2⟩
 ·rw [hq]
  have h1 : 0 ≤ B * (x + c) := Int.mul_nonneg (by omega) (by omega)
  have h2 : B * (x + c) ≤ B * 4294967295 := Int.mul_le_mul_of_nonneg_left (by omega) (by omega)
  rw [Int.emod_eq_of_lt (by omega) (by omega)]
 ·rw [hq, hq2, Int.mul_comm B 4294967296, Int.add_emod_right, Int.emod_eq_of_lt (by omega) (by omega)]
  omega
structure TryI (t top d2 u2 q : Int) (g r : Int) : Prop where
 e : g * top + r = t
 hr : 0 ≤ r
 hq : q ≤ g
 hg : g ≤ 4294967297
structure DivW (W D B : Int) (t top d2 u2 : Int) : Prop where
 B0 : 1 ≤ B
 w0 : (t * 4294967296 + u2) * B ≤ W
 w1 : W < (t * 4294967296 + u2 + 1) * B
 d0 : (top * 4294967296 + d2) * B ≤ D
 d1 : D < (top * 4294967296 + d2 + 1) * B
 ht : 2147483648 ≤ top ∧ top < 4294967296
 hd2 : 0 ≤ d2 ∧ d2 < 4294967296
 hu2 : 0 ≤ u2 ∧ u2 < 4294967296
 hW0 : 0 ≤ W
 hW : W < D * 4294967296
theorem divW_D {W D B t top d2 u2 : Int} (h : DivW W D B t top d2 u2) : 0 < D := by
 have h1 := h.d0
 have h2 := h.B0
 have h3 := h.ht
 have h4 := h.hd2
 have : 1 * 1 ≤ (top * 4294967296 + d2) * B := Int.mul_le_mul (by omega) h2 (by omega) (by omega)
 omega
theorem quo_le {W D q : Int} (hD : 0 < D) : q ≤ W / D ↔ q * D ≤ W := Int.le_ediv_iff_mul_le hD
theorem divW_q {W D B t top d2 u2 : Int} (h : DivW W D B t top d2 u2) : 0 ≤ W / D ∧ W / D < 4294967296 := by
 have hD := divW_D h
 exact ⟨Int.ediv_nonneg h.hW0 (by omega), Int.ediv_lt_of_lt_mul hD (by rw [Int.mul_comm]; exact h.hW)⟩
theorem try_zero {W D B t top d2 u2 : Int} (h : DivW W D B t top d2 u2) : TryI t top d2 u2 (W / D) (t / top) (t % top) := by
 obtain ⟨t1, t2⟩ := h.ht
 have hD := divW_D h
 have hq := divW_q h
 have hB := h.B0
 obtain ⟨q, eq⟩ : ∃ q, q = W / D := ⟨_, rfl⟩
 have q1 : q * D ≤ W := by rw [eq]; exact (quo_le hD).1 (Int.le_refl _)
 rw [← eq] at hq ⊢
 -- q top <= t
 have k1 : q * top ≤ t := by
  refine Classical.byContradiction fun hc => ?_
  have h1 : t + 1 ≤ q * top := by omega
  have h2 : (t + 1) * 4294967296 * B ≤ q * top * 4294967296 * B := Int.mul_le_mul_of_nonneg_right (Int.mul_le_mul_of_nonneg_right h1 (by omega)) (by omega)
  have h3 : q * ((top * 4294967296 + d2) * B) ≤ q * D := Int.mul_le_mul_of_nonneg_left h.d0 hq.1
  have h4 : 0 ≤ q * (d2 * B) := Int.mul_nonneg hq.1 (Int.mul_nonneg h.hd2.1 (by omega))
  have h5 := h.w1
  have h6 : (u2 + 1) * B ≤ 4294967296 * B := Int.mul_le_mul_of_nonneg_right (by have := h.hu2; omega) (by omega)
  grind
 have k2 : q ≤ t / top := (quo_le (by omega)).2 k1
 -- t < (top + 1) 2^32
 have k3 : t < (top + 1) * 4294967296 := by
  refine Classical.byContradiction fun hc => ?_
  have h1 : (top + 1) * 4294967296 ≤ t := by omega
  have h2 : (top + 1) * 4294967296 * 4294967296 * B ≤ t * 4294967296 * B := Int.mul_le_mul_of_nonneg_right (Int.mul_le_mul_of_nonneg_right h1 (by omega)) (by omega)
  have h3 := h.w0
  have h4 := h.hW
  have h5 := h.d1
  have h6 : 0 ≤ u2 * B := Int.mul_nonneg h.hu2.1 (by omega)
  have h7 : (d2 + 1) * B ≤ 4294967296 * B := Int.mul_le_mul_of_nonneg_right (by have := h.hd2; omega) (by omega)
  grind
 have k4 : t / top < 4294967298 := Int.ediv_lt_of_lt_mul (by omega) (by omega)
 exact ⟨by rw [Int.mul_comm]; exact Int.mul_ediv_add_emod t top, Int.emod_nonneg _ (by omega), k2, by omega⟩
theorem try_step {W D B t top d2 u2 g r : Int} (h : DivW W D B t top d2 u2) (i : TryI t top d2 u2 (W / D) g r) (hc : 4294967296 ≤ g ∨ r * 4294967296 + u2 < g * d2) : TryI t top d2 u2 (W / D) (g - 1) (r + top) := by
 have hD := divW_D h
 have hq := divW_q h
 have hB := h.B0
 have ht := h.ht
 have i1 := i.hr
 have i2 := i.hq
 have i3 := i.hg
 refine ⟨by have := i.e; rw [← this, Int.sub_mul]; omega, by omega, ?_, by omega⟩
 rcases hc with hc | hc
 ·omega
 ·refine Classical.byContradiction fun hn => ?_
  have e : W / D = g := by omega
  have q1 : g * D ≤ W := by rw [← e]; exact (quo_le hD).1 (Int.le_refl _)
  have g0 : 0 ≤ g := by omega
  have h3 : g * ((top * 4294967296 + d2) * B) ≤ g * D := Int.mul_le_mul_of_nonneg_left h.d0 g0
  have h4 : (r * 4294967296 + u2 + 1) * B ≤ g * d2 * B := Int.mul_le_mul_of_nonneg_right (by omega) (by omega)
  have h5 := h.w1
  have h6 := i.e
  have e7 : t * 4294967296 * B = (g * top) * 4294967296 * B + r * 4294967296 * B := by rw [← h6]; grind
  grind
theorem try_done {W D B t top d2 u2 g r : Int} (h : DivW W D B t top d2 u2) (i : TryI t top d2 u2 (W / D) g r) (hg : g ≤ 4294967296) (hc : 4294967296 ≤ r ∨ g * d2 ≤ r * 4294967296 + u2) : g ≤ W / D + 1 := by
 have hD := divW_D h
 have hq := divW_q h
 have hB := h.B0
 have ht := h.ht
 have hd := h.hd2
 have i2 := i.hq
 have g0 : 0 ≤ g := by omega
 have hc2 : g * d2 ≤ r * 4294967296 + u2 := by
  rcases hc with hc | hc
  ·have : g * d2 ≤ 4294967296 * 4294967295 := Int.mul_le_mul hg (by omega) hd.1 (by omega)
   have := h.hu2
   omega
  ·exact hc
 have h1 : g * ((top * 4294967296 + d2) * B) ≤ W := by
  have h2 : (g * d2) * B ≤ (r * 4294967296 + u2) * B := Int.mul_le_mul_of_nonneg_right hc2 (by omega)
  have h3 := h.w0
  have e7 : t * 4294967296 * B = (g * top) * 4294967296 * B + r * 4294967296 * B := by rw [← i.e]; grind
  grind
 refine Classical.byContradiction fun hn => ?_
 have hlt : W < (W / D + 1) * D := by
  have := Int.lt_mul_ediv_self_add (x := W) hD
  grind
 have h2 : (W / D + 1) * D ≤ (g - 1) * D := Int.mul_le_mul_of_nonneg_right (by omega) (by omega)
 have h3 : g * D < g * ((top * 4294967296 + d2 + 1) * B) ∨ g = 0 := by
  rcases Int.lt_or_le 0 g with gp | gp
  ·exact .inl (Int.mul_lt_mul_of_pos_left h.d1 gp)
  ·exact .inr (by omega)
 rcases h3 with h3 | h3
 ·have h4 : g * B ≤ 4294967296 * B := Int.mul_le_mul_of_nonneg_right hg (by omega)
  have h5 : 4294967296 * B ≤ (top * 4294967296 + d2) * B := Int.mul_le_mul_of_nonneg_right (by omega) (by omega)
  have h6 := h.d0
  grind
 ·omega
end Go.Bn
