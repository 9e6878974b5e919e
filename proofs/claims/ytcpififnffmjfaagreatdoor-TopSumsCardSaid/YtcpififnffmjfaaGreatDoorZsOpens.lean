/-
 How the arguments of the laws read. (Printed by a program of ours, opens_qr.py.)
-/
import Derived.Test.YtcpififnffmjfaaGreatDoorZsRow
import Derived.Test.YtcpififnffmjfaaGreatDoorProg
import Derived.Test.YtcpififnffmjfaaGreatDoorZsTypes
import Derived.Test.YtcpififnffmjfaaGreatDoorZsWLaw1
import Derived.KernelRfl
set_option linter.unusedVariables false
set_option linter.unusedSimpArgs false
namespace Go.Proofs.YtcpififnffmjfaaGreatDoor
open Go Go.Bn
theorem rd38 : Rdr Tryz.prog 38 Nat (fun b => [u64p b]) (fun b => b < 2 ^ 64) := rd_u64 Tryz.underlying38 (by kernel_rfl)
theorem rd3 : Rdr Tryz.prog 3 Int (fun z => [isv (.int .i64 z)]) (fun z => (Lit.int .i64 z).wf = true) := rd_int Tryz.underlying3 (by kernel_rfl)
theorem c38 : Tryz.prog.cellsOf 38 = 1 := by kernel_rfl
theorem c3 : Tryz.prog.cellsOf 3 = 1 := by kernel_rfl
theorem b38 : Tryz.prog.bytesOf 38 = 8 := by kernel_rfl
theorem b3 : Tryz.prog.bytesOf 3 = 8 := by kernel_rfl
theorem rd22 : Rdr Tryz.prog 22 (List Nat) (fun bs => [wsl bs]) GoodU :=
 (rd_slice Tryz.underlying22 (by kernel_rfl) (by rw [c38]; decide) rd38).re id (fun xs h => ⟨h.1, by rw [b38] at h; exact Nat.le_trans h.2 (by decide)⟩) (fun xs => by rw [c38]; exact congrArg (fun p => [p]) flat_one)
theorem op22 : Opens Tryz.prog 22 (List Nat) (fun bs => wsl bs) GoodU := op_scalar (.inr (.inr ⟨_, Tryz.underlying22⟩)) rd22
theorem rd23 : Rdr Tryz.prog 23 (List Int) (fun zs => [slm (fun z => isv (.int .i64 z)) zs]) (fun zs => (∀ z, z ∈ zs → (Lit.int .i64 z).wf = true) ∧ zs.length * 8 ≤ 140737488351232) :=
 (rd_slice Tryz.underlying23 (by kernel_rfl) (by rw [c3]; decide) rd3).re id (fun xs h => ⟨h.1, by rw [b3] at h; exact h.2⟩) (fun xs => by rw [c3]; exact congrArg (fun p => [p]) flat_one)
theorem op23 : Opens Tryz.prog 23 (List Int) (fun zs => slm (fun z => isv (.int .i64 z)) zs) (fun zs => (∀ z, z ∈ zs → (Lit.int .i64 z).wf = true) ∧ zs.length * 8 ≤ 140737488351232) := op_scalar (.inr (.inr ⟨_, Tryz.underlying23⟩)) rd23
end Go.Proofs.YtcpififnffmjfaaGreatDoor
