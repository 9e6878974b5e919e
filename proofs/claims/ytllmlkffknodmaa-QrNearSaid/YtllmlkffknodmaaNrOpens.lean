/-
  How the arguments of the matrix laws read.
-/
import Derived.Test.YtllmlkffknodmaaNrRow
import Derived.Test.YtllmlkffknodmaaProg
import Derived.Test.YtllmlkffknodmaaNrTypes
import Derived.Test.YtllmlkffknodmaaNrWLaw1
import Derived.KernelRfl
set_option linter.unusedVariables false
set_option linter.unusedSimpArgs false
namespace Go.Proofs.Ytllmlkffknodmaa
open Go Go.Bn
theorem rd22 : Rdr Try.prog 22 Nat (fun b => [u64p b]) (fun b => b < 2 ^ 64) := rd_u64 Try.underlying22 (by kernel_rfl)
theorem rd3 : Rdr Try.prog 3 Int (fun z => [isv (.int .i64 z)]) (fun z => (Lit.int .i64 z).wf = true) := rd_int Try.underlying3 (by kernel_rfl)
theorem c22 : Try.prog.cellsOf 22 = 1 := by kernel_rfl
theorem c3 : Try.prog.cellsOf 3 = 1 := by kernel_rfl
theorem b22 : Try.prog.bytesOf 22 = 8 := by kernel_rfl
theorem b3 : Try.prog.bytesOf 3 = 8 := by kernel_rfl
theorem rd42 : Rdr Try.prog 42 (List Nat) (fun bs => [wsl bs]) GoodU :=
  (rd_slice Try.underlying42 (by kernel_rfl) (by rw [c22]; decide) rd22).re id (fun xs h => ⟨h.1, by rw [b22] at h; exact Nat.le_trans h.2 (by decide)⟩) (fun xs => by rw [c22]; exact congrArg (fun p => [p]) flat_one)
theorem op42 : Opens Try.prog 42 (List Nat) (fun bs => wsl bs) GoodU := op_scalar (.inr (.inr ⟨_, Try.underlying42⟩)) rd42
theorem op3 : Opens Try.prog 3 Int (fun z => isv (.int .i64 z)) (fun z => (Lit.int .i64 z).wf = true) := op_scalar (.inl ⟨_, Try.underlying3⟩) rd3
end Go.Proofs.Ytllmlkffknodmaa
