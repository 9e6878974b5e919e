/-
  Plain facts on what is symmetric.
-/
import Derived.Test.YtcnffgbncbadbaaFp
set_option linter.unusedVariables false
set_option linter.unusedSimpArgs false
namespace Go.Bn
open Go
def symB (r c : Int) (xs : List Nat) : Bool := decide (chk r c xs = 0) && decide (r = c) && decide (∀ i, i < r.toNat → ∀ j, j < i → mat c xs (i : Nat) (j : Nat) = mat c xs (j : Nat) (i : Nat))
theorem symB_iff {r c : Int} {xs : List Nat} : symB r c xs = true ↔ chk r c xs = 0 ∧ r = c ∧ ∀ i j : Int, 0 ≤ j → j < i → i < r → mat c xs i j = mat c xs j i := by
  unfold symB
  rw [Bool.and_eq_true, Bool.and_eq_true, decide_eq_true_eq, decide_eq_true_eq, decide_eq_true_eq, and_assoc]
  refine and_congr_right fun _ => and_congr_right fun _ => ⟨fun h i j h1 h2 h3 => ?_, fun h i hi j hj => h i j (by omega) (by omega) (by omega)⟩
  have := h i.toNat (by omega) j.toNat (by omega)
  rw [show ((i.toNat : Nat) : Int) = i by omega, show ((j.toNat : Nat) : Int) = j by omega] at this
  exact this
theorem sym_no1 {r c : Int} {xs : List Nat} (h : ¬ chk r c xs = 0 ∨ ¬ r = c) : symB r c xs = false := by
  cases hs : symB r c xs
  · rfl
  · obtain ⟨h1, h2, _⟩ := symB_iff.1 hs
    rcases h with h | h
    · exact (h h1).elim
    · exact (h h2).elim
theorem sym_no2 {r c i j : Int} {xs : List Nat} (h1 : 0 ≤ j) (h2 : j < i) (h3 : i < r) (h : ¬ mat c xs i j = mat c xs j i) : symB r c xs = false := by
  cases hs : symB r c xs
  · rfl
  · obtain ⟨_, _, h4⟩ := symB_iff.1 hs
    exact (h (h4 i j h1 h2 h3)).elim
/-- All below row i, and in row i below column j. -/
def SymTo (c : Int) (xs : List Nat) (i j : Nat) : Prop := ∀ a b : Nat, b < a → (a < i ∨ (a = i ∧ b < j)) → mat c xs a b = mat c xs b a
theorem symTo_zero {c : Int} {xs : List Nat} : SymTo c xs 0 0 := fun a b h1 h2 => by omega
theorem symTo_step {c : Int} {xs : List Nat} {i j : Nat} (h : SymTo c xs i j) (he : mat c xs (i : Nat) (j : Nat) = mat c xs (j : Nat) (i : Nat)) : SymTo c xs i (j + 1) := fun a b h1 h2 => by
  by_cases hab : a = i ∧ b = j
  · rw [hab.1, hab.2]; exact he
  · exact h a b h1 (by omega)
theorem symTo_row {c : Int} {xs : List Nat} {i q : Nat} (hq : q = i) (h : SymTo c xs i q) : SymTo c xs (i + 1) 0 := fun a b h1 h2 => h a b h1 (by omega)
theorem sym_yes {r c : Int} {xs : List Nat} {k : Nat} (h1 : chk r c xs = 0) (h2 : r = c) (hk : r.toNat ≤ k) (h : SymTo c xs k 0) : symB r c xs = true := by
  refine symB_iff.2 ⟨h1, h2, fun i j g1 g2 g3 => ?_⟩
  have := h i.toNat j.toNat (by omega) (by omega)
  rw [show ((i.toNat : Nat) : Int) = i by omega, show ((j.toNat : Nat) : Int) = j by omega] at this
  exact this
theorem sym_mir {n : Int} {g : Int → Int → Nat} (hs : Siz n n) (hf : (mirR n g).all finB = true) : symB n n (mirR n g) = true := by
  refine symB_iff.2 ⟨chk_zero.2 ⟨good_mir hs, hf⟩, rfl, fun i j h1 h2 h3 => ?_⟩
  have e1 : mat n (mirR n g) i j = _ := mat_grid (by omega) h3 h1 (by omega)
  have e2 : mat n (mirR n g) j i = _ := mat_grid h1 (by omega) (by omega) h3
  rw [e1, e2, if_pos (by omega), if_neg (by omega)]
theorem sym_told {n : Int} {g : Int → Int → Nat} (hs : Siz n n) (h : (toldR n n (mirR n g)).e = 0) : symB (toldR n n (mirR n g)).r (toldR n n (mirR n g)).c (toldR n n (mirR n g)).a = true := by
  unfold toldR at h ⊢
  cases hf : (mirR n g).all finB
  · rw [hf] at h; cases h
  · rw [if_neg (by simp)]
    exact sym_mir hs hf
theorem orR_zero {e : Int} {x : MR} (h : (orR e x).e = 0) : e = 0 ∧ orR e x = x := by
  unfold orR at h ⊢
  by_cases he : e = 0
  · exact ⟨he, if_pos he⟩
  · rw [if_neg he] at h; exact (he h).elim
theorem sym_sand {r c r' c' : Int} {xs ys : List Nat} (h : (sandR r c xs r' c' ys).e = 0) : symB (sandR r c xs r' c' ys).r (sandR r c xs r' c' ys).c (sandR r c xs r' c' ys).a = true := by
  obtain ⟨h1, h2⟩ := orR_zero (show (orR _ _).e = 0 from h)
  obtain ⟨hg, _⟩ := sandE_good h1
  have e : sandR r c xs r' c' ys = toldR r r (sandG r c xs ys) := h2
  rw [e] at h ⊢
  exact sym_told hg.1.sq h
theorem sym_mean {r c : Int} {xs : List Nat} (h : (meanR r c xs).e = 0) : symB (meanR r c xs).r (meanR r c xs).c (meanR r c xs).a = true := by
  obtain ⟨h1, h2⟩ := orR_zero (show (orR _ _).e = 0 from h)
  obtain ⟨hg, _⟩ := sqE_good h1
  have e : meanR r c xs = toldR r r (mirR r (meanF r c xs)) := h2
  rw [e] at h ⊢
  exact sym_told hg.1 h
theorem mirror_ok {r c : Int} {xs : List Nat} (h : (mirrorR r c xs).e = 0) : Good r r xs ∧ c = r ∧ xs.all finB = true ∧ mirrorR r c xs = ⟨r, r, mirR r (mat c xs), 0⟩ := by
  obtain ⟨h1, h2⟩ := orR_zero (show (orR _ _).e = 0 from h)
  obtain ⟨hg, hc, hf⟩ := sqE_good h1
  exact ⟨hg, hc, hf, h2⟩
theorem all_mir {n : Int} {xs : List Nat} {p : Nat → Bool} (hg : Good n n xs) (h : xs.all p = true) : (mirR n (mat n xs)).all p = true := by
  rw [all_good hg] at h
  refine all_grid.2 fun i j hp => ?_
  show p (if j ≤ i then mat n xs i j else mat n xs j i) = true
  split
  · exact h i j hp
  · exact h j i ⟨hp.2.2.1, hp.2.2.2, hp.1, hp.2.1⟩
theorem sym_mirror {r c : Int} {xs : List Nat} (h : (mirrorR r c xs).e = 0) : symB (mirrorR r c xs).r (mirrorR r c xs).c (mirrorR r c xs).a = true := by
  obtain ⟨hg, hc, hf, e⟩ := mirror_ok h
  subst hc
  rw [e]
  exact sym_mir hg.1 (all_mir hg hf)
/-- What is symmetric stays. -/
theorem mir_sym {n : Int} {xs : List Nat} (h : symB n n xs = true) : mirR n (mat n xs) = xs := by
  obtain ⟨h1, _, h3⟩ := symB_iff.1 h
  have hg := chk_good h1
  conv => rhs; rw [← grid_mat hg.1.1 hg.1.1 hg.2]
  refine grid_congr fun i j g1 g2 g3 g4 => ?_
  show (if j ≤ i then mat n xs i j else mat n xs j i) = _
  split
  · rfl
  · exact h3 j i g1 (by omega) g4
theorem sqE_ok {n : Int} {xs : List Nat} (h : chk n n xs = 0) : sqE n n xs = 0 := fst2.2 ⟨h, by simp [whenE]⟩
theorem mirror_sym {n : Int} {xs : List Nat} (h : symB n n xs = true) : mirrorR n n xs = ⟨n, n, xs, 0⟩ := by
  obtain ⟨h1, _, h3⟩ := symB_iff.1 h
  have e : mirrorR n n xs = ⟨n, n, mirR n (mat n xs), 0⟩ := if_pos (sqE_ok h1)
  rw [e, mir_sym h]
theorem mean_sym {n : Int} {xs : List Nat} (hw : xs.all (fun x => decide (x < 2 ^ 64)) = true) (h : symB n n xs = true) (he : (meanR n n xs).e = 0) : meanR n n xs = ⟨n, n, xs, 0⟩ := by
  obtain ⟨h1, _, h3⟩ := symB_iff.1 h
  obtain ⟨hg, hfin⟩ := chk_zero.1 h1
  have e : meanR n n xs = toldR n n (mirR n (meanF n n xs)) := if_pos (sqE_ok h1)
  rw [e] at he ⊢
  have hf : (mirR n (meanF n n xs)).all finB = true := by
    cases hf : (mirR n (meanF n n xs)).all finB
    · unfold toldR at he; rw [hf] at he; cases he
    · rfl
  have hall := all_grid.1 hf
  rw [all_good hg] at hw hfin
  have hm : mirR n (meanF n n xs) = xs := by
    conv => rhs; rw [← mir_sym h]
    refine mir_congr fun i j hl => ?_
    obtain ⟨l1, l2, l3⟩ := hl
    unfold meanF
    split
    · rfl
    · have hp : Pl n n i j := ⟨by omega, by omega, by omega, by omega⟩
      have h5 := hall i j hp
      change finB (if j ≤ i then meanF n n xs i j else meanF n n xs j i) = true at h5
      rw [if_pos (by omega)] at h5
      unfold meanF at h5
      rename_i hne
      rw [if_neg hne] at h5
      rw [← h3 i j l1 (by omega) l3] at h5 ⊢
      exact half_self (by simpa using hw i j hp) (hfin i j hp) h5
  rw [hm]
  unfold toldR
  rw [if_neg (by rw [hm] at hf; simp [hf])]
theorem all_cn {bs : List Nat} (h : ∀ b, b ∈ bs → b < 2 ^ 64) : (bs.map cn).all (fun x => decide (x < 2 ^ 64)) = true := by
  rw [List.all_eq_true]
  intro x hx
  obtain ⟨b, hb, rfl⟩ := List.mem_map.1 hx
  exact decide_eq_true (cn_lt (h b hb))
theorem mir_e {r c : Int} {xs : List Nat} : (mirrorR r c xs).e = sqE r c xs := by
  unfold mirrorR orR
  split
  · rename_i h; exact h.symm
  · rfl
/-! ## MatrixSymmetric -/
theorem symm_3 {r c : Int} {xs : List Nat} (h : ¬ (mirrorR r c xs).e = 0) : (cmpB .neq (chk r c xs) 0 || cmpB .neq r c) = true := by
  rw [mir_e] at h
  unfold sqE at h
  rw [fst2] at h
  by_cases h1 : chk r c xs = 0
  · by_cases h2 : r = c
    · exact (h ⟨h1, by simp [whenE, h2]⟩).elim
    · simp [cmpB, h2]
  · simp [cmpB, h1]
theorem symm_2 {x : MR} (hs : x.e = 0 → symB x.r x.c x.a = true) (h : (cmpB .eql x.e 0 && !symB x.r x.c x.a) = true) : False := by
  simp [cmpB] at h
  rw [hs h.1] at h
  cases h.2
theorem symm_4 {x y : MR} (hx : symB x.r x.c x.a = true) (hs : y.e = 0 → symB y.r y.c y.a = true) (h : (!symB x.r x.c x.a || (cmpB .eql y.e 0 && !symB y.r y.c y.a)) = true) : False := by
  rw [hx] at h
  exact symm_2 hs (by simpa using h)
theorem symm_fin {r c : Int} {xs : List Nat} {o p m : MR} (hw : xs.all (fun x => decide (x < 2 ^ 64)) = true) (hm : m = mirrorR r c xs) (he : m.e = 0) (ho : o = meanR m.r m.c m.a) (hp : p = mirrorR m.r m.c m.a) :
    ((((cmpB .neq o.e 0 || eqM o.r o.c o.a m.r m.c m.a) && cmpB .eql p.e 0) && eqM p.r p.c p.a m.r m.c m.a) && (!symB r c xs || eqM m.r m.c m.a r c xs)) = true := by
  subst hm
  have hsym := sym_mirror he
  obtain ⟨hg, hc, hf, e⟩ := mirror_ok he
  subst hc
  rw [e] at hsym ho hp ⊢
  have hp' := mirror_sym hsym
  rw [hp] at *
  simp only at hp' hsym ⊢
  rw [hp']
  have h1 : (cmpB .neq o.e 0 || eqM o.r o.c o.a c c (mirR c (mat c xs))) = true := by
    by_cases h0 : o.e = 0
    · rw [ho] at h0 ⊢
      have := mean_sym (all_mir hg hw) hsym h0
      rw [show meanR (MR.r ⟨c, c, mirR c (mat c xs), 0⟩) (MR.c ⟨c, c, mirR c (mat c xs), 0⟩) (MR.a ⟨c, c, mirR c (mat c xs), 0⟩) = _ from this]
      simp [eqM]
    · simp [cmpB, h0]
  rw [h1]
  have h2 : (!symB c c xs || eqM c c (mirR c (mat c xs)) c c xs) = true := by
    cases hs : symB c c xs
    · rfl
    · rw [mir_sym hs]; simp [eqM]
  rw [h2]
  simp [cmpB, eqM]
end Go.Bn
