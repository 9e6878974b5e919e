/-
 How the arguments of the model's laws read.
-/
import Derived.Test.YtjnmgcglooeooaaGreatDoorPsRow
import Derived.Test.YtjnmgcglooeooaaGreatDoorProg
import Derived.Test.YtjnmgcglooeooaaGreatDoorPsTypes
import Derived.Test.YtjnmgcglooeooaaGreatDoorPsKd
import Derived.Test.YtjnmgcglooeooaaGreatDoorPsKb
import Derived.KernelRfl
import Derived.Test.YtjnmgcglooeooaaGreatDoorPsWMat1
import Derived.Test.YtjnmgcglooeooaaGreatDoorPsKc
set_option linter.unusedVariables false
set_option linter.unusedSimpArgs false
namespace Go.Proofs.YtjnmgcglooeooaaGreatDoor
open Go Go.Bn
theorem rd37 : Rdr Tryz.prog 37 Nat (fun b => [u64p b]) (fun b => b < 2 ^ 64) := rd_u64 Tryz.underlying37 (by kernel_rfl)
theorem rd3 : Rdr Tryz.prog 3 Int (fun z => [isv (.int .i64 z)]) (fun z => (Lit.int .i64 z).wf = true) := rd_int Tryz.underlying3 (by kernel_rfl)
theorem rd2 : Rdr Tryz.prog 2 Int (fun z => [isv (.int .i64 z)]) (fun z => (Lit.int .i64 z).wf = true) := rd_int Tryz.underlying2 (by kernel_rfl)
theorem c37 : Tryz.prog.cellsOf 37 = 1 := by kernel_rfl
theorem c3 : Tryz.prog.cellsOf 3 = 1 := by kernel_rfl
theorem c51 : Tryz.prog.cellsOf 51 = 4 := by kernel_rfl
theorem b51 : Tryz.prog.bytesOf 51 = 32 := by kernel_rfl
theorem rd51 : Rdr Tryz.prog 51 Prt prtU (fun p => p.n < 2 ^ 64 ∧ p.f < 2 ^ 64) :=
 (rd_struct (fs := _) Tryz.underlying51 (fr_cons rfl rd3 (fr_cons (by rw [c3]) rd3 (fr_cons (by rw [c3]) rd37 (fr_cons (by rw [c3, c37]) rd37 fr_nil)))) (fun a => by rw [c51]; rfl)).re (fun m => ⟨m.1, m.2.1, m.2.2.1, m.2.2.2.1⟩) (fun a h => ⟨h.2.2.1, h.2.2.2.1⟩) (fun a => rfl)
theorem rd22 : Rdr Tryz.prog 22 (List Prt) (fun ls => [slk 4 prtU ls]) GoodL :=
 (rd_slice Tryz.underlying22 (by kernel_rfl) (by rw [c51]; decide) rd51).re id (fun xs h => ⟨h.1, by rw [b51] at h; exact Nat.le_trans h.2 (by decide)⟩) (fun xs => by rw [c51]; rfl)
theorem op2 : Opens Tryz.prog 2 Int (fun z => isv (.int .i64 z)) (fun z => (Lit.int .i64 z).wf = true) := op_scalar (.inl ⟨_, Tryz.underlying2⟩) rd2
theorem op22 : Opens Tryz.prog 22 (List Prt) (fun ls => slk 4 prtU ls) GoodL := op_scalar (.inr (.inr ⟨_, Tryz.underlying22⟩)) rd22
end Go.Proofs.YtjnmgcglooeooaaGreatDoor
