/-
  How the arguments of the model's laws read.
-/
import Derived.Test.YtcnffgbncbadbaaRow
import Derived.Test.YtcnffgbncbadbaaProg
import Derived.Test.YtcnffgbncbadbaaTypes
import Derived.Test.YtcnffgbncbadbaaLay
import Derived.Test.YtcnffgbncbadbaaWLaw1
import Derived.KernelRfl
set_option linter.unusedVariables false
set_option linter.unusedSimpArgs false
namespace Go.Proofs.Ytcnffgbncbadbaa
open Go Go.Bn
theorem rd39 : Rdr Try.prog 39 Nat (fun b => [u64p b]) (fun b => b < 2 ^ 64) := rd_u64 Try.underlying39 (by kernel_rfl)
theorem rd3 : Rdr Try.prog 3 Int (fun z => [isv (.int .i64 z)]) (fun z => (Lit.int .i64 z).wf = true) := rd_int Try.underlying3 (by kernel_rfl)
theorem rd2 : Rdr Try.prog 2 Int (fun z => [isv (.int .i64 z)]) (fun z => (Lit.int .i64 z).wf = true) := rd_int Try.underlying2 (by kernel_rfl)
theorem c39 : Try.prog.cellsOf 39 = 1 := by kernel_rfl
theorem c3 : Try.prog.cellsOf 3 = 1 := by kernel_rfl
theorem b39 : Try.prog.bytesOf 39 = 8 := by kernel_rfl
theorem b3 : Try.prog.bytesOf 3 = 8 := by kernel_rfl
theorem c41 : Try.prog.cellsOf 41 = 4 := by kernel_rfl
theorem b41 : Try.prog.bytesOf 41 = 32 := by kernel_rfl
theorem c70 : Try.prog.cellsOf 70 = 6 := by kernel_rfl
theorem c68 : Try.prog.cellsOf 68 = 1 := by kernel_rfl
theorem rd68 : Rdr Try.prog 68 (List Nat) (fun bs => [wsl bs]) GoodU :=
  (rd_slice Try.underlying68 (by kernel_rfl) (by rw [c39]; decide) rd39).re id (fun xs h => ⟨h.1, by rw [b39] at h; exact Nat.le_trans h.2 (by decide)⟩) (fun xs => by rw [c39]; exact congrArg (fun p => [p]) flat_one)
theorem rd44 : Rdr Try.prog 44 (List Int) (fun zs => [slm (fun z => isv (.int .i64 z)) zs]) (fun zs => (∀ z, z ∈ zs → (Lit.int .i64 z).wf = true) ∧ zs.length * 8 ≤ 140737488351232) :=
  (rd_slice Try.underlying44 (by kernel_rfl) (by rw [c3]; decide) rd3).re id (fun xs h => ⟨h.1, by rw [b3] at h; exact h.2⟩) (fun xs => by rw [c3]; exact congrArg (fun p => [p]) flat_one)
theorem rd41 : Rdr Try.prog 41 Prt prtU (fun p => p.n < 2 ^ 64 ∧ p.f < 2 ^ 64) :=
  (rd_struct (fs := _) Try.underlying41 (fr_cons rfl rd3 (fr_cons (by rw [c3]) rd3 (fr_cons (by rw [c3]) rd39 (fr_cons (by rw [c3, c39]) rd39 fr_nil)))) (fun a => by rw [c41]; rfl)).re (fun m => ⟨m.1, m.2.1, m.2.2.1, m.2.2.2.1⟩) (fun a h => ⟨h.2.2.1, h.2.2.2.1⟩) (fun a => rfl)
theorem rd22 : Rdr Try.prog 22 (List Prt) (fun ls => [slk 4 prtU ls]) GoodL :=
  (rd_slice Try.underlying22 (by kernel_rfl) (by rw [c41]; decide) rd41).re id (fun xs h => ⟨h.1, by rw [b41] at h; exact Nat.le_trans h.2 (by decide)⟩) (fun xs => by rw [c41]; rfl)
theorem op68 : Opens Try.prog 68 (List Nat) (fun bs => wsl bs) GoodU := op_scalar (.inr (.inr ⟨_, Try.underlying68⟩)) rd68
theorem op3 : Opens Try.prog 3 Int (fun z => isv (.int .i64 z)) (fun z => (Lit.int .i64 z).wf = true) := op_scalar (.inl ⟨_, Try.underlying3⟩) rd3
theorem op2 : Opens Try.prog 2 Int (fun z => isv (.int .i64 z)) (fun z => (Lit.int .i64 z).wf = true) := op_scalar (.inl ⟨_, Try.underlying2⟩) rd2
theorem op44 : Opens Try.prog 44 (List Int) (fun zs => slm (fun z => isv (.int .i64 z)) zs) (fun zs => (∀ z, z ∈ zs → (Lit.int .i64 z).wf = true) ∧ zs.length * 8 ≤ 140737488351232) := op_scalar (.inr (.inr ⟨_, Try.underlying44⟩)) rd44
theorem op22 : Opens Try.prog 22 (List Prt) (fun ls => slk 4 prtU ls) GoodL := op_scalar (.inr (.inr ⟨_, Try.underlying22⟩)) rd22
theorem op70 : Opens Try.prog 70 (Int × Int × Int × List Nat × List Nat × Nat) (fun m => aggp [isv (.int .i64 m.1), isv (.int .i64 m.2.1), isv (.int .i64 m.2.2.1), wsl m.2.2.2.1, wsl m.2.2.2.2.1, u64p m.2.2.2.2.2]) (fun m => (Lit.int .i64 m.1).wf = true ∧ GoodU m.2.2.2.1 ∧ GoodU m.2.2.2.2.1 ∧ m.2.2.2.2.2 < 2 ^ 64) :=
  (op_agg Try.underlying70 (rd_struct (fs := _) Try.underlying70 (fr_cons rfl rd3 (fr_cons (by rw [c3]) rd3 (fr_cons (by rw [c3]) rd3 (fr_cons (by rw [c3]) rd68 (fr_cons (by rw [c3, c68]) rd68 (fr_cons (by rw [c3, c68]) rd39 fr_nil)))))) (fun a => by rw [c70]; rfl))).re (fun m => (m.1, m.2.1, m.2.2.1, m.2.2.2.1, m.2.2.2.2.1, m.2.2.2.2.2.1)) (fun a h => ⟨h.1, h.2.2.2.1, h.2.2.2.2.1, h.2.2.2.2.2.1⟩) (fun a => rfl)
end Go.Proofs.Ytcnffgbncbadbaa
