/-
  Lists that may be owned again: new memory, whole blocks.
-/
import Derived.Test.YtjfkpnacfnnkhaaDoorNew
set_option linter.unusedVariables false
set_option linter.unusedSimpArgs false
namespace Go.Bn
open Go
/-- A list that lasts, its block laid out as a whole. -/
def fosp {α : Type} (mk : α → SP) (T : TypeId) (xs : List α) : SP := ⟨fun v c => (v = .slice none 0 0 ∧ xs.length = 0) ∨ ∃ b cap cur, v = .slice (some ⟨b, 0, none⟩) xs.length cap ∧ xs.length ≤ cap ∧ cap ≤ maxLen ∧ ¬ c.M b ∧ c.w.heap[b]? = some (.cells cur T (0, 0)) ∧ cur.size = cap * 1 ∧ CL (xs.map mk) cur 0 c, by
  rintro v c c' hle (h | ⟨b, cap, cur, h1, h2, h3, h4, h5, h6, h7⟩)
  · exact .inl h
  · have hb : b < c.w.heap.size := by
      rcases Nat.lt_or_ge b c.w.heap.size with h | h
      · exact h
      · rw [Array.getElem?_eq_none h] at h5; cases h5
    have hk := hle.keep b hb h4
    exact .inr ⟨b, cap, cur, h1, h2, h3, hk.2, hk.1.trans h5, h6, h7.st hle⟩⟩
theorem sb_fos {α : Type} {mk : α → SP} {T : TypeId} {xs : List α} {Γ : Facts} : Sb Γ (fosp mk T xs) (slm mk xs) := fun v c _ h => by
  show (slc (xs.map mk).length 1 (xs.map mk)).H v c
  rw [List.length_map]
  refine ⟨by rw [List.length_map, Nat.mul_one], ?_⟩
  rcases h with ⟨h1, h2⟩ | ⟨b, cap, cur, h1, h2, h3, h4, h5, h6, h7⟩
  · exact .inl ⟨h1, h2⟩
  · exact .inr ⟨⟨b, 0, none⟩, cap, h1, h2, h3, .inr ⟨b, 0, rfl, h4, cur, T, (0, 0), h5, h7⟩⟩
theorem frz_fos {α : Type} {sv : Value} {mk : α → SP} {xs : List α} {T : TypeId} : Freezes (som sv mk xs T) sv (fosp mk T xs) := by
  rintro c c' ob ⟨h0, h⟩ hle hob
  rcases h with ⟨h1, h2, _⟩ | ⟨b, cap, cur, h1, h2, h3, h4, h5, h6, h7⟩
  · exact .inl ⟨h1, h2⟩
  · have := hob b (mem1 h2)
    exact .inr ⟨b, cap, cur, h1, h3, h4, this.2, this.1.trans h5, h6, h7.st hle⟩
theorem sb_nilF {α : Type} {mk : α → SP} {T : TypeId} {Γ : Facts} {n : Nat} : Sb Γ (isv (.slice none 0 0)) (newp n (fosp mk T [])) := fun v c _ h => .inl ⟨h.1, rfl⟩
/-- What is new and whole may be owned. -/
theorem fos_own {α : Type} {mk : α → SP} (hmk : ∀ a, (mk a).Pure) {T : TypeId} {xs : List α} {n : Nat} {v : Value} {w : World} {M : Nat → Prop} (h : (newp n (fosp mk T xs)).H v ⟨w, M⟩) :
    ∃ ob : Bs, (∀ b, ob b → n ≤ b ∧ b < w.heap.size) ∧ (som v mk xs T).H ⟨w, fun k => M k ∨ ob k⟩ ob := by
  rcases h with ⟨h1, h2⟩ | ⟨b, cap, cur, h1, h2, h3, h4, h5, h6, h7⟩
  · exact ⟨nob, fun b hb => False.elim hb, ⟨by rw [List.length_map, Nat.mul_one], .inl ⟨h1, h2, rfl⟩⟩⟩
  · have h5' : w.heap[b]? = some (.cells cur T (0, 0)) := h5
    have hb : b < w.heap.size := by
      rcases Nat.lt_or_ge b w.heap.size with h | h
      · exact h
      · rw [Array.getElem?_eq_none h] at h5'; cases h5'
    refine ⟨only b, fun k hk => ?_, by rw [List.length_map, Nat.mul_one], .inr ⟨b, cap, cur, h1, rfl, h2, h3, h5, h6, fun i p hi => ?_⟩⟩
    · rw [show k = b from hk]
      exact ⟨Nat.le_of_not_lt fun h => h4 (.inr h), hb⟩
    · obtain ⟨u, q1, q2, q3⟩ := h7 i p hi
      rw [nth_eq, List.getElem?_map] at hi
      cases hx : xs[i]? with
      | none => rw [hx] at hi; cases hi
      | some a => rw [hx] at hi; cases hi; exact ⟨u, q1, q2, hmk a _ _ _ q3⟩
theorem co_Nfs {α : Type} {mk : α → SP} {T : TypeId} {xs : List α} {n : Nat} : CellsOf (newp n (fosp mk T xs)) [newp n (fosp mk T xs)] := CellsOf.one fun v c h => by
  rcases h with h | ⟨b, cap, cur, h, _⟩
  · rw [h.1]; rfl
  · rw [h]; rfl
/-! ## Shapes -/
def resMF (T : TypeId) (x : MR) : SP := tupp [aggp [isv (.int .i64 x.r), isv (.int .i64 x.c), fosp flp T x.a], isv (.int .i64 x.e)]
def resVF (T : TypeId) (x : LR) : SP := tupp [fosp flp T x.a, isv (.int .i64 x.e)]
theorem ret_MF {Γ : Facts} {r c : Int} {a : List Nat} {e : Int} {x : MR} {T : TypeId} (h : (⟨r, c, a, e⟩ : MR) = x) : Sb Γ (tupp [aggp [isv (.int .i64 r), isv (.int .i64 c), fosp flp T a], isv (.int .i64 e)]) (resMF T x) := by subst h; exact sb_refl
theorem ret_LF {Γ : Facts} {a : List Nat} {e : Int} {x : LR} {T : TypeId} (h : (⟨a, e⟩ : LR) = x) : Sb Γ (tupp [fosp flp T a, isv (.int .i64 e)]) (resVF T x) := by subst h; exact sb_refl
theorem push_MF {Γ : Facts} {n : Nat} {r c e : Int} {xs : List Nat} {T : TypeId} : Sb Γ (tupp [aggp [isv (.int .i64 r), isv (.int .i64 c), newp n (fosp flp T xs)], isv (.int .i64 e)]) (newp n (tupp [aggp [isv (.int .i64 r), isv (.int .i64 c), fosp flp T xs], isv (.int .i64 e)])) :=
  sb_trans (sb_tup (.cons (sb_trans (sb_agg (.cons (sb_pure (pure_isv _)) <| .cons (sb_pure (pure_isv _)) <| .cons sb_refl <| .nil)) (sb_aggN (ps := [_, _, _]))) <| .cons (sb_pure (pure_isv _)) <| .nil)) (sb_tupN (ps := [_, _]))
theorem pull_MF {Γ : Facts} {n : Nat} {x : MR} {T : TypeId} : Sb Γ (newp n (resMF T x)) (tupp [aggp [isv (.int .i64 x.r), isv (.int .i64 x.c), newp n (fosp flp T x.a)], isv (.int .i64 x.e)]) :=
  sb_trans (sb_Ntup (ps := [_, _])) (sb_tup (.cons (sb_trans (sb_Nagg (ps := [_, _, _])) (sb_agg (.cons sb_new <| .cons sb_new <| .cons sb_refl <| .nil))) <| .cons sb_new <| .nil))
theorem push_VF {α : Type} {mk : α → SP} {Γ : Facts} {n : Nat} {e : Int} {xs : List α} {T : TypeId} : Sb Γ (tupp [newp n (fosp mk T xs), isv (.int .i64 e)]) (newp n (tupp [fosp mk T xs, isv (.int .i64 e)])) := sb_trans (sb_tup (.cons sb_refl <| .cons (sb_pure (pure_isv _)) <| .nil)) (sb_tupN (ps := [_, _]))
theorem pull_VF {α : Type} {mk : α → SP} {Γ : Facts} {n : Nat} {e : Int} {xs : List α} {T : TypeId} : Sb Γ (newp n (tupp [fosp mk T xs, isv (.int .i64 e)])) (tupp [newp n (fosp mk T xs), isv (.int .i64 e)]) := sb_trans (sb_Ntup (ps := [_, _])) (sb_tup (.cons sb_refl <| .cons sb_new <| .nil))
/-- A matrix and an error: its numbers may be owned. -/
theorem CtN.ownM {P : Program} {f : Nat} {ps : List SP} {T : TypeId} {x : MR} (h : CtN P f ps (resMF T x)) : CtF P f ps agP (fun u => tupp [aggp [isv (.int .i64 x.r), isv (.int .i64 x.c), isv u], isv (.int .i64 x.e)]) (fun u => som u flp x.a T) :=
  ⟨h.1, fun vs c hwf hv => (h.2 vs c hwf hv).mono fun e w' ⟨v, he, hx, hR⟩ => by
    have hp := pull_MF (Γ := []) v ⟨w', c.M⟩ (fun _ _ hm => by cases hm) hR
    obtain ⟨vl, rfl, h1⟩ := hp
    match vl, h1 with
    | [m, er], ⟨⟨cs, hm, hs, hc⟩, h2, _⟩ =>
      subst hm
      obtain ⟨u0, a1, a2, a3⟩ := hc 0 _ rfl
      obtain ⟨u1, b1, b2, b3⟩ := hc 1 _ rfl
      obtain ⟨u2, d1, d2, d3⟩ := hc 2 _ rfl
      obtain ⟨ob, g1, g2⟩ := fos_own (fun a => pure_flp a) d3
      rw [Nat.zero_add] at a1 b1 d1
      have hpr : agP (.tuple [.agg cs, er].toArray) = u2 := by
        show cs.getD 2 undef = u2
        rw [Array.getD_eq_getD_getElem?, d1]; rfl
      rw [← hpr] at g2 d2
      refine ⟨_, ob, he, hx, g1, ⟨_, rfl, ⟨cs, rfl, hs, fun i p hi => ?_⟩, h2, trivial⟩, g2⟩
      match i, hi with
      | 0, hi => cases hi; exact ⟨u0, by rw [Nat.zero_add]; exact a1, a2, a3⟩
      | 1, hi => cases hi; exact ⟨u1, by rw [Nat.zero_add]; exact b1, b2, b3⟩
      | 2, hi => cases hi; exact ⟨u2, by rw [Nat.zero_add]; exact d1, hpr ▸ d2, hpr.symm, d2⟩⟩
/-- A list and an error: it may be owned. -/
theorem CtN.ownV {α : Type} {mk : α → SP} (hmk : ∀ a, (mk a).Pure) {P : Program} {f : Nat} {ps : List SP} {T : TypeId} {xs : List α} {z : Int} (h : CtN P f ps (tupp [fosp mk T xs, isv (.int .i64 z)])) : CtF P f ps tp0 (fun u => tupp [isv u, isv (.int .i64 z)]) (fun u => som u mk xs T) :=
  ⟨h.1, fun vs c hwf hv => (h.2 vs c hwf hv).mono fun e w' ⟨v, he, hx, hR⟩ => by
    have hp := pull_VF (Γ := []) v ⟨w', c.M⟩ (fun _ _ hm => by cases hm) hR
    obtain ⟨vl, rfl, h1⟩ := hp
    match vl, h1 with
    | [m, er], ⟨h1, h2, _⟩ =>
      obtain ⟨ob, g1, g2⟩ := fos_own hmk h1
      have h1' : (slm mk xs).H m ⟨w', c.M⟩ := sb_fos (Γ := []) m _ (fun _ _ hm => by cases hm) (newp_old h1)
      have ho : m.oneCell' = true := by
        rcases h1'.2 with h | ⟨ad, cap, h, _⟩
        · rw [h.1]; rfl
        · rw [h]; rfl
      exact ⟨_, ob, he, hx, g1, ⟨_, rfl, ⟨rfl, ho⟩, h2, trivial⟩, g2⟩⟩
end Go.Bn
