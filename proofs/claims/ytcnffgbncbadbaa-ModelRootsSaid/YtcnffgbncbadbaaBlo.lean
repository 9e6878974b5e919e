/-
  Plain facts on matrices taken apart and put together.
-/
import Derived.Test.YtcnffgbncbadbaaOrd
set_option linter.unusedVariables false
set_option linter.unusedSimpArgs false
namespace Go.Bn
open Go
theorem tmod_rng (k : Int) {n : Int} (h : 0 < n) : -n < k.tmod n ∧ k.tmod n < n := by
  have h1 := Int.tmod_lt_of_pos k h
  have h2 := Int.tmod_lt_of_pos (-k) h
  rw [Int.neg_tmod] at h2
  omega
theorem tmod_rng0 {k n : Int} (hk : 0 ≤ k) (h : 0 < n) : 0 ≤ k.tmod n ∧ k.tmod n < n := ⟨Int.tmod_nonneg _ hk, Int.tmod_lt_of_pos k h⟩
theorem chk_blk {r c i j p q : Int} {xs : List Nat} (h : chk r c xs = 0) (hs : Siz p q) (h1 : 0 ≤ i) (h2 : i + p ≤ r) (h3 : 0 ≤ j) (h4 : j + q ≤ c) : blkR r c xs i j p q = ⟨p, q, blkG c xs i j p q, 0⟩ ∧ chk p q (blkG c xs i j p q) = 0 := by
  obtain ⟨hg, hf⟩ := chk_zero.1 h
  obtain ⟨z1, z2, z3, z4⟩ := hg.1
  obtain ⟨s1, s2, s3, s4⟩ := hs
  have e : blkE r c xs i j p q = 0 := by
    unfold blkE
    rw [h, (spanB_iff z2).2 ⟨h1, s1, h2⟩, (spanB_iff z4).2 ⟨h3, s3, h4⟩]
    rfl
  refine ⟨if_pos e, chk_zero.2 ⟨good_grid ⟨s1, s2, s3, s4⟩, all_grid.2 fun a b hp => ?_⟩⟩
  obtain ⟨p1, p2, p3, p4⟩ := hp
  exact mat_fin hg ⟨by omega, by omega, by omega, by omega⟩ hf
theorem chk_bes {r c c' : Int} {xs ys : List Nat} (h1 : chk r c xs = 0) (h2 : chk r c' ys = 0) (hs : Siz r (c + c')) : besR r c xs r c' ys = ⟨r, c + c', besG r c xs c' ys, 0⟩ ∧ chk r (c + c') (besG r c xs c' ys) = 0 := by
  obtain ⟨hg, hf⟩ := chk_zero.1 h1
  obtain ⟨hg', hf'⟩ := chk_zero.1 h2
  refine ⟨?_, chk_zero.2 ⟨good_grid hs, all_grid.2 fun a b hp => ?_⟩⟩
  · rw [bes_eq h1 h2]
    unfold rbesR
    have := hs.2.2.2
    rw [if_neg (by simp), if_neg (by omega)]
  · obtain ⟨p1, p2, p3, p4⟩ := hp
    unfold besF
    split
    · exact mat_fin hg ⟨p1, p2, p3, by omega⟩ hf
    · exact mat_fin hg' ⟨p1, p2, by omega, by omega⟩ hf'
theorem all_append {xs ys : List Nat} {p : Nat → Bool} (h1 : xs.all p = true) (h2 : ys.all p = true) : (xs ++ ys).all p = true := by rw [List.all_append, h1, h2]; rfl
theorem chk_stk {r c r' : Int} {xs ys : List Nat} (h1 : chk r c xs = 0) (h2 : chk r' c ys = 0) (hs : Siz (r + r') c) : stkR r c xs r' c ys = ⟨r + r', c, xs ++ ys, 0⟩ ∧ chk (r + r') c (xs ++ ys) = 0 := by
  obtain ⟨hg, hf⟩ := chk_zero.1 h1
  obtain ⟨hg', hf'⟩ := chk_zero.1 h2
  refine ⟨if_pos ?_, chk_zero.2 ⟨good_stk hg hg' hs, all_append hf hf'⟩⟩
  unfold stkE
  have q1 := hg.1
  have q2 := hg'.1
  have q3 := hs
  unfold Siz at q1 q2 q3
  have e : wr r r' = r + r' := wrap_id (by omega) (by omega)
  rw [h1, h2, e, show fstE [0, 0, whenE (c != c) 3, whenE (decide (12 < r + r')) 1] = 0 by
    have : ¬ 12 < r + r' := by omega
    simp [fstE, whenE, this]]
/-- Two blocks side by side. -/
theorem bes_blk {r c k : Int} {xs : List Nat} (hg : Good r c xs) (h0 : 0 ≤ k) (h1 : k ≤ c) : besG r k (blkG c xs 0 0 r k) (c - k) (blkG c xs 0 k r (c - k)) = xs := by
  conv => rhs; rw [← grid_mat hg.1.1 hg.1.2.2.1 hg.2]
  unfold besG
  rw [show k + (c - k) = c by omega]
  refine grid_congr fun i j q1 q2 q3 q4 => ?_
  unfold besF
  by_cases hj : j < k
  · rw [if_pos hj]
    have e : mat k (blkG c xs 0 0 r k) i j = mat c xs (0 + i) (0 + j) := mat_grid q1 q2 q3 hj
    rw [e, Int.zero_add, Int.zero_add]
  · rw [if_neg hj]
    have e : mat (c - k) (blkG c xs 0 k r (c - k)) i (j - k) = mat c xs (0 + i) (k + (j - k)) := mat_grid q1 q2 (by omega) (by omega)
    rw [e, Int.zero_add, show k + (j - k) = j by omega]
/-- Two blocks, one on top of the other. -/
theorem stk_blk {r c k : Int} {xs : List Nat} (hg : Good r c xs) (h0 : 0 ≤ k) (h1 : k ≤ r) : blkG c xs 0 0 k c ++ blkG c xs k 0 (r - k) c = xs := by
  have g1 : Good k c (blkG c xs 0 0 k c) := good_grid (by have := hg.1; unfold Siz at this ⊢; omega)
  have g2 : Good (r - k) c (blkG c xs k 0 (r - k) c) := good_grid (by have := hg.1; unfold Siz at this ⊢; omega)
  have hs : Siz (k + (r - k)) c := by have := hg.1; unfold Siz at this ⊢; omega
  have g3 := good_stk g1 g2 hs
  have e0 : k + (r - k) = r := by omega
  rw [← grid_mat g3.1.1 g3.1.2.2.1 g3.2]
  conv => rhs; rw [← grid_mat hg.1.1 hg.1.2.2.1 hg.2]
  have key : ∀ i j, 0 ≤ i → i < r → 0 ≤ j → j < c → mat c (blkG c xs 0 0 k c ++ blkG c xs k 0 (r - k) c) i j = mat c xs i j := fun i j q1 q2 q3 q4 => by
    rw [mat_stk g1 g2 ⟨q1, by omega, q3, q4⟩]
    by_cases hi : i < k
    · rw [if_pos hi]
      have e : mat c (blkG c xs 0 0 k c) i j = mat c xs (0 + i) (0 + j) := mat_grid q1 hi q3 q4
      rw [e, Int.zero_add, Int.zero_add]
    · rw [if_neg hi]
      have e : mat c (blkG c xs k 0 (r - k) c) (i - k) j = mat c xs (k + (i - k)) (0 + j) := mat_grid (by omega) (by omega) q3 q4
      rw [e, Int.zero_add, show k + (i - k) = i by omega]
  rw [show grid (k + (r - k)) c (mat c (blkG c xs 0 0 k c ++ blkG c xs k 0 (r - k) c)) = grid r c (mat c (blkG c xs 0 0 k c ++ blkG c xs k 0 (r - k) c)) by rw [e0]]
  exact grid_congr key
theorem blocks_1 {r c k n : Int} {xs : List Nat} {l t u w x y : MR} (h : chk r c xs = 0) (hk : 0 ≤ k ∧ k ≤ c) (hn : 0 ≤ n ∧ n ≤ r) (hl : l = blkR r c xs 0 0 r k) (ht : t = blkR r c xs 0 k r (c - k)) (hu : u = blkR r c xs 0 0 n c) (hw : w = blkR r c xs n 0 (r - n) c) (hx : x = besR l.r l.c l.a t.r t.c t.a) (hy : y = stkR u.r u.c u.a w.r w.c w.a)
    (hh : (((cmpB .neq x.e 0 || cmpB .neq y.e 0) || !eqM x.r x.c x.a r c xs) || !eqM y.r y.c y.a r c xs) = true) : False := by
  have hg := chk_good h
  obtain ⟨z1, z2, z3, z4⟩ := hg.1
  obtain ⟨e1, c1⟩ := @chk_blk r c 0 0 r k xs h ⟨z1, z2, hk.1, by omega⟩ (by omega) (by omega) (by omega) (by omega)
  obtain ⟨e2, c2⟩ := @chk_blk r c 0 k r (c - k) xs h ⟨z1, z2, by omega, by omega⟩ (by omega) (by omega) (by omega) (by omega)
  obtain ⟨e3, c3⟩ := @chk_blk r c 0 0 n c xs h ⟨hn.1, by omega, z3, z4⟩ (by omega) (by omega) (by omega) (by omega)
  obtain ⟨e4, c4⟩ := @chk_blk r c n 0 (r - n) c xs h ⟨by omega, by omega, z3, z4⟩ (by omega) (by omega) (by omega) (by omega)
  rw [hl, ht, e1, e2] at hx
  rw [hu, hw, e3, e4] at hy
  have b1 := (chk_bes c1 c2 ⟨z1, z2, by omega, by omega⟩).1
  have b2 := (chk_stk c3 c4 ⟨by omega, by omega, z3, z4⟩).1
  rw [bes_blk hg hk.1 hk.2, show k + (c - k) = c by omega] at b1
  rw [stk_blk hg hn.1 hn.2, show n + (r - n) = r by omega] at b2
  rw [hx, hy] at hh
  rw [show besR (MR.r ⟨r, k, blkG c xs 0 0 r k, 0⟩) (MR.c ⟨r, k, blkG c xs 0 0 r k, 0⟩) (MR.a ⟨r, k, blkG c xs 0 0 r k, 0⟩) (MR.r ⟨r, c - k, blkG c xs 0 k r (c - k), 0⟩) (MR.c ⟨r, c - k, blkG c xs 0 k r (c - k), 0⟩) (MR.a ⟨r, c - k, blkG c xs 0 k r (c - k), 0⟩) = _ from b1, show stkR (MR.r ⟨n, c, blkG c xs 0 0 n c, 0⟩) (MR.c ⟨n, c, blkG c xs 0 0 n c, 0⟩) (MR.a ⟨n, c, blkG c xs 0 0 n c, 0⟩) (MR.r ⟨r - n, c, blkG c xs n 0 (r - n) c, 0⟩) (MR.c ⟨r - n, c, blkG c xs n 0 (r - n) c, 0⟩) (MR.a ⟨r - n, c, blkG c xs n 0 (r - n) c, 0⟩) = _ from b2] at hh
  simp [cmpB, eqM] at hh
/-! ## Products by parts -/
theorem col_bes_l {r c c' j : Int} {xs ys : List Nat} (h0 : 0 ≤ j) (h1 : j < c) (hc : 0 ≤ c') : colL r (c + c') (besG r c xs c' ys) j = colL r c xs j := by
  unfold colL
  apply List.map_congr_left
  intro k hk
  rw [List.mem_range] at hk
  have e : mat (c + c') (besG r c xs c' ys) (k : Nat) j = besF c xs c' ys (k : Nat) j := mat_grid (by omega) (by omega) h0 (by omega)
  rw [e]
  unfold besF
  rw [if_pos h1]
theorem col_bes_r {r c c' j : Int} {xs ys : List Nat} (h0 : c ≤ j) (h1 : j < c + c') (hc : 0 ≤ c) : colL r (c + c') (besG r c xs c' ys) j = colL r c' ys (j - c) := by
  unfold colL
  apply List.map_congr_left
  intro k hk
  rw [List.mem_range] at hk
  have e : mat (c + c') (besG r c xs c' ys) (k : Nat) j = besF c xs c' ys (k : Nat) j := mat_grid (by omega) (by omega) (by omega) h1
  rw [e]
  unfold besF
  rw [if_neg (by omega)]
theorem prod_bes {r c p q : Int} {xs ys zs : List Nat} (hp : 0 ≤ p) (hq : 0 ≤ q) : prodG r c xs (p + q) (besG c p ys q zs) = besG r p (prodG r c xs p ys) q (prodG r c xs q zs) := by
  refine grid_congr fun i j h1 h2 h3 h4 => ?_
  unfold besF
  by_cases hj : j < p
  · rw [if_pos hj, col_bes_l h3 hj hq]
    exact (show mat p (prodG r c xs p ys) i j = dotL (rowL c xs i) (colL c p ys j) from mat_grid h1 h2 h3 hj).symm
  · rw [if_neg hj, col_bes_r (by omega) h4 hp]
    exact (show mat q (prodG r c xs q zs) i (j - p) = dotL (rowL c xs i) (colL c q zs (j - p)) from mat_grid h1 h2 (by omega) (by omega)).symm
theorem toldR_e {r c : Int} {xs : List Nat} (h : (toldR r c xs).e = 0) : xs.all finB = true ∧ toldR r c xs = ⟨r, c, xs, 0⟩ := by
  unfold toldR at h ⊢
  cases hf : xs.all finB
  · rw [hf] at h; cases h
  · exact ⟨rfl, by rw [if_neg (by decide)]⟩
theorem mul_ok_e {r c r' c' : Int} {xs ys : List Nat} (h : (mulR r c xs r' c' ys).e = 0) : chk r c xs = 0 ∧ chk r' c' ys = 0 ∧ r' = c ∧ (prodG r c xs c' ys).all finB = true ∧ mulR r c xs r' c' ys = ⟨r, c', prodG r c xs c' ys, 0⟩ := by
  obtain ⟨h1, h2⟩ := orR_zero (show (orR _ _).e = 0 from h)
  have h3 : (toldR r c' (prodG r c xs c' ys)).e = 0 := by rw [← h2]; exact h
  obtain ⟨hf, ht⟩ := toldR_e h3
  obtain ⟨_, _, e1, _, _⟩ := mulE_good h1
  unfold mulE at h1
  have h4 := (fst3.1 h1)
  exact ⟨h4.1, h4.2.1, e1, hf, h2.trans ht⟩
theorem mul_is {r c c' : Int} {xs ys : List Nat} (h1 : chk r c xs = 0) (h2 : chk c c' ys = 0) (hf : (prodG r c xs c' ys).all finB = true) : mulR r c xs c c' ys = ⟨r, c', prodG r c xs c' ys, 0⟩ := by
  rw [← rmul_yes h1 h2 rfl]
  exact toldR_ok hf
theorem bes_ok_e {r c r' c' : Int} {xs ys : List Nat} (h : (besR r c xs r' c' ys).e = 0) : chk r c xs = 0 ∧ chk r' c' ys = 0 ∧ r' = r ∧ Siz r (c + c') := by
  obtain ⟨h1, _⟩ := orR_zero (show (orR _ _).e = 0 from h)
  obtain ⟨_, _, e1, hs⟩ := besE_good h1
  unfold besE at h1
  have h4 := (fst4.1 h1)
  exact ⟨h4.1, h4.2.1, e1, hs⟩
theorem stk_ok_e {r c r' c' : Int} {xs ys : List Nat} (h : (stkR r c xs r' c' ys).e = 0) : chk r c xs = 0 ∧ chk r' c' ys = 0 ∧ c' = c ∧ Siz (r + r') c := by
  obtain ⟨h1, _⟩ := orR_zero (show (orR _ _).e = 0 from h)
  obtain ⟨_, _, e1, hs⟩ := stkE_good h1
  unfold stkE at h1
  have h4 := (fst4.1 h1)
  exact ⟨h4.1, h4.2.1, e1, hs⟩
theorem all_bes {r c c' : Int} {xs ys : List Nat} {p : Nat → Bool} (h1 : Good r c xs) (h2 : Good r c' ys) (f1 : xs.all p = true) (f2 : ys.all p = true) : (besG r c xs c' ys).all p = true := by
  rw [all_good h1] at f1
  rw [all_good h2] at f2
  refine all_grid.2 fun a b hp => ?_
  obtain ⟨p1, p2, p3, p4⟩ := hp
  unfold besF
  split
  · exact f1 a b ⟨p1, p2, p3, by omega⟩
  · exact f2 a (b - c) ⟨p1, p2, by omega, by omega⟩
/-- A product with two side by side: two products side by side. -/
theorem blocks_3 {r c r1 c1 r2 c2 : Int} {xs ys zs : List Nat} {bs ab ac m w : MR} (hb : bs = besR r1 c1 ys r2 c2 zs) (h1 : ab = mulR r c xs r1 c1 ys) (h2 : ac = mulR r c xs r2 c2 zs) (hm : m = mulR r c xs bs.r bs.c bs.a) (hw : w = besR ab.r ab.c ab.a ac.r ac.c ac.a)
    (he : (bs.e = 0 ∧ ab.e = 0) ∧ ac.e = 0) (hh : ((cmpB .neq m.e 0 || cmpB .neq w.e 0) || !eqM m.r m.c m.a w.r w.c w.a) = true) : False := by
  obtain ⟨⟨e1, e2⟩, e3⟩ := he
  rw [hb] at e1
  rw [h1] at e2
  rw [h2] at e3
  obtain ⟨b1, b2, b3, b4⟩ := bes_ok_e e1
  obtain ⟨m1, m2, m3, m4, m5⟩ := mul_ok_e e2
  obtain ⟨n1, n2, n3, n4, n5⟩ := mul_ok_e e3
  subst b3
  subst m3
  obtain ⟨q1, q2⟩ := chk_bes b1 b2 b4
  have g1 := chk_good b1
  have g2 := chk_good b2
  have hc1 := g1.1.2.2.1
  have hc2 := g2.1.2.2.1
  have gx := chk_good m1
  have gp := good_prod gx g1
  have gq := good_prod gx g2
  have ca := chk_of gp m4
  have cb := chk_of gq n4
  have s1 := gx.1
  have s2 : Siz r (c1 + c2) := by unfold Siz at b4 s1 ⊢; omega
  have w1 := (chk_bes ca cb s2).1
  have f : (prodG r r2 xs (c1 + c2) (besG r2 c1 ys c2 zs)).all finB = true := by rw [prod_bes hc1 hc2]; exact all_bes gp gq m4 n4
  have w2 := mul_is m1 q2 f
  rw [prod_bes hc1 hc2] at w2
  rw [h1, h2, m5, n5] at hw
  rw [hb, q1] at hm
  rw [show mulR r r2 xs (MR.r ⟨r2, c1 + c2, besG r2 c1 ys c2 zs, 0⟩) (MR.c ⟨r2, c1 + c2, besG r2 c1 ys c2 zs, 0⟩) (MR.a ⟨r2, c1 + c2, besG r2 c1 ys c2 zs, 0⟩) = _ from w2] at hm
  rw [show besR (MR.r ⟨r, c1, prodG r r2 xs c1 ys, 0⟩) (MR.c ⟨r, c1, prodG r r2 xs c1 ys, 0⟩) (MR.a ⟨r, c1, prodG r r2 xs c1 ys, 0⟩) (MR.r ⟨r, c2, prodG r r2 xs c2 zs, 0⟩) (MR.c ⟨r, c2, prodG r r2 xs c2 zs, 0⟩) (MR.a ⟨r, c2, prodG r r2 xs c2 zs, 0⟩) = _ from w1] at hw
  rw [hm, hw] at hh
  simp [cmpB, eqM] at hh
theorem row_stk_l {r c r' i : Int} {xs ys : List Nat} (h1 : Good r c xs) (h2 : Good r' c ys) (h0 : 0 ≤ i) (hi : i < r) : rowL c (xs ++ ys) i = rowL c xs i := by
  have := h2.1.1
  refine rowL_congr rfl fun j q1 q2 => ?_
  rw [mat_stk h1 h2 ⟨h0, by omega, q1, q2⟩, if_pos hi]
theorem row_stk_r {r c r' i : Int} {xs ys : List Nat} (h1 : Good r c xs) (h2 : Good r' c ys) (h0 : r ≤ i) (hi : i < r + r') : rowL c (xs ++ ys) i = rowL c ys (i - r) := by
  have := h1.1.1
  refine rowL_congr rfl fun j q1 q2 => ?_
  rw [mat_stk h1 h2 ⟨by omega, hi, q1, q2⟩, if_neg (by omega)]
theorem prod_stk {r c r' p : Int} {xs ys zs : List Nat} (h1 : Good r c xs) (h2 : Good r' c ys) (h3 : Good c p zs) (hs : Siz (r + r') p) : prodG (r + r') c (xs ++ ys) p zs = prodG r c xs p zs ++ prodG r' c ys p zs := by
  have g1 := good_prod h1 h3
  have g2 := good_prod h2 h3
  have g := good_stk g1 g2 hs
  conv => rhs; rw [← grid_mat g.1.1 g.1.2.2.1 g.2]
  refine grid_congr fun i j q1 q2 q3 q4 => ?_
  rw [mat_stk g1 g2 ⟨q1, q2, q3, q4⟩]
  by_cases hi : i < r
  · rw [if_pos hi, row_stk_l h1 h2 q1 hi]
    exact (show mat p (prodG r c xs p zs) i j = dotL (rowL c xs i) (colL c p zs j) from mat_grid q1 hi q3 q4).symm
  · rw [if_neg hi, row_stk_r h1 h2 (by omega) q2]
    exact (show mat p (prodG r' c ys p zs) (i - r) j = dotL (rowL c ys (i - r)) (colL c p zs j) from mat_grid (by omega) (by omega) q3 q4).symm
/-- A product of two, one on top of the other: two products, one on top of the other. -/
theorem blocks_4 {r c r1 c1 r2 c2 : Int} {xs ys zs : List Nat} {st ac bc m w : MR} (hb : st = stkR r c xs r1 c1 ys) (h1 : ac = mulR r c xs r2 c2 zs) (h2 : bc = mulR r1 c1 ys r2 c2 zs) (hm : m = mulR st.r st.c st.a r2 c2 zs) (hw : w = stkR ac.r ac.c ac.a bc.r bc.c bc.a)
    (he : (st.e = 0 ∧ ac.e = 0) ∧ bc.e = 0) : ((cmpB .eql m.e 0 && cmpB .eql w.e 0) && eqM m.r m.c m.a w.r w.c w.a) = true := by
  obtain ⟨⟨e1, e2⟩, e3⟩ := he
  rw [hb] at e1
  rw [h1] at e2
  rw [h2] at e3
  obtain ⟨b1, b2, b3, b4⟩ := stk_ok_e e1
  obtain ⟨m1, m2, m3, m4, m5⟩ := mul_ok_e e2
  obtain ⟨n1, n2, n3, n4, n5⟩ := mul_ok_e e3
  subst m3
  subst b3
  obtain ⟨q1, q2⟩ := chk_stk b1 b2 b4
  have g1 := chk_good b1
  have g2 := chk_good b2
  have g3 := chk_good m2
  have gp := good_prod g1 g3
  have gq := good_prod g2 g3
  have ca := chk_of gp m4
  have cb := chk_of gq n4
  have s3 := g3.1
  have s2 : Siz (r + r1) c2 := by unfold Siz at b4 s3 ⊢; omega
  have w1 := (chk_stk ca cb s2).1
  have f : (prodG (r + r1) c1 (xs ++ ys) c2 zs).all finB = true := by rw [prod_stk g1 g2 g3 s2]; exact all_append m4 n4
  have w2 := mul_is q2 m2 f
  rw [prod_stk g1 g2 g3 s2] at w2
  rw [h1, h2, m5, n5] at hw
  rw [hb, q1] at hm
  rw [show mulR (MR.r ⟨r + r1, c1, xs ++ ys, 0⟩) (MR.c ⟨r + r1, c1, xs ++ ys, 0⟩) (MR.a ⟨r + r1, c1, xs ++ ys, 0⟩) c1 c2 zs = _ from w2] at hm
  rw [show stkR (MR.r ⟨r, c2, prodG r c1 xs c2 zs, 0⟩) (MR.c ⟨r, c2, prodG r c1 xs c2 zs, 0⟩) (MR.a ⟨r, c2, prodG r c1 xs c2 zs, 0⟩) (MR.r ⟨r1, c2, prodG r1 c1 ys c2 zs, 0⟩) (MR.c ⟨r1, c2, prodG r1 c1 ys c2 zs, 0⟩) (MR.a ⟨r1, c2, prodG r1 c1 ys c2 zs, 0⟩) = _ from w1] at hw
  rw [hm, hw]
  simp [cmpB, eqM]
/-! ## An order and its turning -/
/-- Who leads n numbers apart into n numbers meets them all. -/
theorem meets_all : ∀ (n : Nat) (f : Nat → Nat), (∀ i, i < n → f i < n) → (∀ i j, i < n → j < n → f i = f j → i = j) → ∀ v, v < n → ∃ i, i < n ∧ f i = v
  | 0, _, _, _, v, hv => by omega
  | n + 1, f, h1, h2, v, hv => by
    by_cases hw : f n = n
    · have hlt : ∀ i, i < n → f i < n := fun i hi => by
        have := h1 i (by omega)
        have hne : f i ≠ n := fun e => by have := h2 i n (by omega) (by omega) (e.trans hw.symm); omega
        omega
      by_cases hvn : v = n
      · exact ⟨n, by omega, by omega⟩
      · obtain ⟨i, hi, he⟩ := meets_all n f hlt (fun i j hi hj => h2 i j (by omega) (by omega)) v (by omega)
        exact ⟨i, by omega, he⟩
    · have hwn : f n < n := by have := h1 n (by omega); omega
      have hg1 : ∀ i, i < n → (if f i = n then f n else f i) < n := fun i hi => by
        split
        · exact hwn
        · have := h1 i (by omega); omega
      have hg2 : ∀ i j, i < n → j < n → (if f i = n then f n else f i) = (if f j = n then f n else f j) → i = j := fun i j hi hj he => by
        by_cases a : f i = n <;> by_cases b : f j = n
        · exact h2 i j (by omega) (by omega) (a.trans b.symm)
        · rw [if_pos a, if_neg b] at he
          have := h2 n j (by omega) (by omega) he; omega
        · rw [if_neg a, if_pos b] at he
          have := h2 i n (by omega) (by omega) he; omega
        · rw [if_neg a, if_neg b] at he
          exact h2 i j (by omega) (by omega) he
      have ih := meets_all n _ hg1 hg2
      by_cases hvw : v = f n
      · exact ⟨n, by omega, hvw.symm⟩
      · by_cases hvn : v = n
        · obtain ⟨i, hi, he⟩ := ih (f n) hwn
          by_cases a : f i = n
          · exact ⟨i, by omega, by omega⟩
          · rw [if_neg a] at he
            have := h2 i n (by omega) (by omega) he; omega
        · obtain ⟨i, hi, he⟩ := ih v (by omega)
          by_cases a : f i = n
          · rw [if_pos a] at he; exact (hvw he.symm).elim
          · rw [if_neg a] at he
            exact ⟨i, by omega, he⟩
/-- The turning, up to k. -/
def BackI (ps : List Int) (k : Nat) (m : List Int) : Prop := m.length = ps.length ∧ ∀ a, a < k → m.getD (ps.getD a 0).toNat 0 = (a : Int)
theorem back_zero {ps m : List Int} (h : m.length = ps.length) : BackI ps 0 m := ⟨h, fun a ha => by omega⟩
theorem back_step {ps m : List Int} {k : Nat} (ho : OkTo ps ps.length) (hk : k < ps.length) (h : BackI ps k m) : BackI ps (k + 1) (m.set (ps.getD k 0).toNat (k : Int)) := by
  obtain ⟨hl, h⟩ := h
  obtain ⟨o1, o2, o3⟩ := ho k hk
  refine ⟨by rw [List.length_set]; exact hl, fun a ha => ?_⟩
  rw [getD_setI (by omega)]
  by_cases hak : a = k
  · subst hak; rw [if_pos rfl]
  · have h1 := o3 a (by omega)
    have h2 := (ho a (by omega)).1
    rw [if_neg (by omega)]
    exact h a (by omega)
theorem back_all {ps m : List Int} (ho : OkTo ps ps.length) (h : BackI ps ps.length m) : OkTo m m.length ∧ ∀ v, v < ps.length → 0 ≤ m.getD v 0 ∧ m.getD v 0 < (ps.length : Int) ∧ ps.getD (m.getD v 0).toNat 0 = (v : Int) := by
  obtain ⟨hl, h⟩ := h
  have inj : ∀ i j, i < ps.length → j < ps.length → (ps.getD i 0).toNat = (ps.getD j 0).toNat → i = j := fun i j hi hj he => by
    obtain ⟨a1, a2, a3⟩ := ho i hi
    obtain ⟨b1, b2, b3⟩ := ho j hj
    rcases Nat.lt_trichotomy i j with q | q | q
    · exact (b3 i q (by omega)).elim
    · exact q
    · exact (a3 j q (by omega)).elim
  have sur := meets_all ps.length (fun i => (ps.getD i 0).toNat) (fun i hi => by have := ho i hi; have := this.1; have := (ho i hi).2.1; show (ps.getD i 0).toNat < _; omega) inj
  have key : ∀ v, v < ps.length → 0 ≤ m.getD v 0 ∧ m.getD v 0 < (ps.length : Int) ∧ ps.getD (m.getD v 0).toNat 0 = (v : Int) := fun v hv => by
    obtain ⟨a, ha, he⟩ := sur v hv
    have he : (ps.getD a 0).toNat = v := he
    have hm := h a ha
    rw [he] at hm
    rw [hm]
    have := (ho a ha).1
    refine ⟨by omega, by omega, ?_⟩
    rw [Int.toNat_natCast]
    omega
  refine ⟨fun v hv => ?_, key⟩
  rw [hl] at hv
  obtain ⟨k1, k2, k3⟩ := key v hv
  refine ⟨k1, by rw [hl]; exact k2, fun q hq he => ?_⟩
  obtain ⟨_, _, l3⟩ := key q (by omega)
  rw [he, k3] at l3
  omega
theorem ord_ok_e {r c : Int} {xs : List Nat} {ps : List Int} (h : (ordR r c xs ps).e = 0) : chk r c xs = 0 ∧ c = r ∧ (ps.length : Int) = r ∧ OkTo ps ps.length ∧ ordR r c xs ps = ⟨r, c, ordG r c xs ps, 0⟩ ∧ chk r c (ordG r c xs ps) = 0 := by
  obtain ⟨h1, h2⟩ := orR_zero (show (orR _ _).e = 0 from h)
  obtain ⟨hg, e1, e2⟩ := ordE_good h1
  have hc : chk r c xs = 0 := by unfold ordE at h1; exact (fst2.1 h1).1
  have h3 : ordR r c xs ps = ordX r c xs ps := h2
  rw [h3] at h ⊢
  unfold ordX at h ⊢
  by_cases hp : permB ps = true
  · rw [if_pos hp]
    have ho : OkTo ps ps.length := of_decide_eq_true hp
    refine ⟨hc, e1, e2, ho, rfl, chk_of (good_grid hg.1) (all_grid.2 fun i j q => ?_)⟩
    obtain ⟨q1, q2, q3, q4⟩ := q
    obtain ⟨z1, z2⟩ := okAt_rng e2 ho q1 q2
    obtain ⟨z3, z4⟩ := okAt_rng e2 ho q3 (show j < r by omega)
    exact mat_fin hg ⟨z1, z2, z3, by omega⟩ (chk_zero.1 hc).2
  · rw [if_neg hp] at h; cases h
theorem blocks_2a {r c : Int} {xs : List Nat} {ps : List Int} (he : (ordR r c xs ps).e = 0) (hh : (cmpB .neq (chk r c xs) 0 || cmpB .neq (rordR r c xs ps).e 0) = true) : False := by
  have hc := (ord_ok_e he).1
  rw [← ord_eq hc, he, hc] at hh
  simp [cmpB] at hh
theorem ord_back {r c : Int} {xs : List Nat} {ps m : List Int} (he : (ordR r c xs ps).e = 0) (hb : BackI ps ps.length m) : ordR (ordR r c xs ps).r (ordR r c xs ps).c (ordR r c xs ps).a m = ⟨r, c, xs, 0⟩ := by
  obtain ⟨hc, e1, e2, ho, hx, hco⟩ := ord_ok_e he
  rw [hx]
  obtain ⟨hm, hv⟩ := back_all ho hb
  have hml : (m.length : Int) = r := by rw [hb.1]; exact e2
  have hpm : permB m = true := decide_eq_true hm
  have e3 : ordE r c (ordG r c xs ps) m = 0 := by
    unfold ordE
    rw [hco, e1, hml]
    simp [fstE, whenE]
  have e4 : ordR r c (ordG r c xs ps) m = ⟨r, c, ordG r c (ordG r c xs ps) m, 0⟩ := (if_pos e3).trans (if_pos hpm)
  have hg := chk_good hc
  have e5 : ordG r c (ordG r c xs ps) m = xs := by
    conv => rhs; rw [← grid_mat hg.1.1 hg.1.2.2.1 hg.2]
    refine grid_congr fun i j q1 q2 q3 q4 => ?_
    obtain ⟨a1, a2, a3⟩ := hv i.toNat (by omega)
    obtain ⟨b1, b2, b3⟩ := hv j.toNat (by omega)
    have e : mat c (ordG r c xs ps) (m.getD i.toNat 0) (m.getD j.toNat 0) = mat c xs (ps.getD (m.getD i.toNat 0).toNat 0) (ps.getD (m.getD j.toNat 0).toNat 0) := mat_grid a1 (by omega) b1 (by omega)
    rw [e, a3, b3, show ((i.toNat : Nat) : Int) = i by omega, show ((j.toNat : Nat) : Int) = j by omega]
  rw [e5] at e4
  exact e4
theorem blocks_2b {r c : Int} {xs : List Nat} {ps m : List Int} {x y : MR} (hx : x = ordR r c xs ps) (he : x.e = 0) (hb : BackI ps ps.length m) (hy : y = ordR x.r x.c x.a m) (hh : (cmpB .neq y.e 0 || !eqM y.r y.c y.a r c xs) = true) : False := by
  subst hx
  rw [hy, ord_back he hb] at hh
  simp [cmpB, eqM] at hh
end Go.Bn
