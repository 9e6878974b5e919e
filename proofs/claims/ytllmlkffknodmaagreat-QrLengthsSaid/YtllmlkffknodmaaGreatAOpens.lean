/-
  How the arguments of the laws read. (Printed by a program of ours, opens_qr.py.)
-/
import Derived.Test.YtllmlkffknodmaaGreatARow
import Derived.Test.YtllmlkffknodmaaGreatProg
import Derived.Test.YtllmlkffknodmaaGreatATypes
import Derived.Test.YtllmlkffknodmaaGreatAWLaw1
import Derived.Test.YtllmlkffknodmaaGreatAScl
import Derived.KernelRfl
set_option linter.unusedVariables false
set_option linter.unusedSimpArgs false
namespace Go.Proofs.YtllmlkffknodmaaGreat
open Go Go.Bn
theorem rd23 : Rdr Tryz.prog 23 Nat (fun b => [u64p b]) (fun b => b < 2 ^ 64) := rd_u64 Tryz.underlying23 (by kernel_rfl)
theorem c23 : Tryz.prog.cellsOf 23 = 1 := by kernel_rfl
theorem c3 : Tryz.prog.cellsOf 3 = 1 := by kernel_rfl
theorem b23 : Tryz.prog.bytesOf 23 = 8 := by kernel_rfl
theorem b3 : Tryz.prog.bytesOf 3 = 8 := by kernel_rfl
theorem rd22 : Rdr Tryz.prog 22 (List Nat) (fun bs => [wsl bs]) GoodU :=
  (rd_slice Tryz.underlying22 (by kernel_rfl) (by rw [c23]; decide) rd23).re id (fun xs h => ⟨h.1, by rw [b23] at h; exact Nat.le_trans h.2 (by decide)⟩) (fun xs => by rw [c23]; exact congrArg (fun p => [p]) flat_one)
theorem op22 : Opens Tryz.prog 22 (List Nat) (fun bs => wsl bs) GoodU := op_scalar (.inr (.inr ⟨_, Tryz.underlying22⟩)) rd22
theorem op23 : Opens Tryz.prog 23 Nat (fun b => u64p b) (fun b => b < 2 ^ 64) := op_scalar (.inl ⟨_, Tryz.underlying23⟩) rd23
end Go.Proofs.YtllmlkffknodmaaGreat
