/-
  How the arguments of the matrix laws read.
-/
import Derived.Test.YtllmlkffknodmaaRow
import Derived.Test.YtllmlkffknodmaaProg
import Derived.Test.YtllmlkffknodmaaTypes
import Derived.Test.YtllmlkffknodmaaWLaw1
import Derived.KernelRfl
set_option linter.unusedVariables false
set_option linter.unusedSimpArgs false
namespace Go.Proofs.Ytllmlkffknodmaa
open Go Go.Bn
theorem rd22 : Rdr Try.prog 22 Nat (fun b => [u64p b]) (fun b => b < 2 ^ 64) := rd_u64 Try.underlying22 (by kernel_rfl)
theorem rd3 : Rdr Try.prog 3 Int (fun z => [isv (.int .i64 z)]) (fun z => (Lit.int .i64 z).wf = true) := rd_int Try.underlying3 (by kernel_rfl)
theorem c22 : Try.prog.cellsOf 22 = 1 := by kernel_rfl
theorem c3 : Try.prog.cellsOf 3 = 1 := by kernel_rfl
theorem b22 : Try.prog.bytesOf 22 = 8 := by kernel_rfl
theorem b3 : Try.prog.bytesOf 3 = 8 := by kernel_rfl
theorem rd42 : Rdr Try.prog 42 (List Nat) (fun bs => [wsl bs]) GoodU :=
  (rd_slice Try.underlying42 (by kernel_rfl) (by rw [c22]; decide) rd22).re id (fun xs h => ⟨h.1, by rw [b22] at h; exact Nat.le_trans h.2 (by decide)⟩) (fun xs => by rw [c22]; exact congrArg (fun p => [p]) flat_one)
theorem op42 : Opens Try.prog 42 (List Nat) (fun bs => wsl bs) GoodU := op_scalar (.inr (.inr ⟨_, Try.underlying42⟩)) rd42
theorem op3 : Opens Try.prog 3 Int (fun z => isv (.int .i64 z)) (fun z => (Lit.int .i64 z).wf = true) := op_scalar (.inl ⟨_, Try.underlying3⟩) rd3
theorem op22 : Opens Try.prog 22 Nat (fun b => u64p b) (fun b => b < 2 ^ 64) := op_scalar (.inl ⟨_, Try.underlying22⟩) rd22
theorem c42 : Try.prog.cellsOf 42 = 1 := by kernel_rfl
theorem c44 : Try.prog.cellsOf 44 = 3 := by kernel_rfl
theorem op44 : Opens Try.prog 44 (Int × Int × List Nat) (fun m => MatU m.1 m.2.1 m.2.2) (fun m => (Lit.int .i64 m.1).wf = true ∧ (Lit.int .i64 m.2.1).wf = true ∧ GoodU m.2.2) :=
  (op_agg Try.underlying44 (rd_struct (fs := _) Try.underlying44 (fr_cons rfl rd3 (fr_cons (by rw [c3]) rd3 (fr_cons (by rw [c3]) rd42 fr_nil))) (fun a => by rw [c44]; rfl))).re (fun m => (m.1, m.2.1, m.2.2.1)) (fun a h => ⟨h.1, h.2.1, h.2.2.1⟩) (fun a => rfl)
end Go.Proofs.Ytllmlkffknodmaa
