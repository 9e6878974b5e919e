/-
  How the arguments of the laws read. (Printed by a program of ours, opens_qr.py.)
-/
import Derived.Test.YtllmlkffknodmaaGreatBRow
import Derived.Test.YtllmlkffknodmaaGreatProg
import Derived.Test.YtllmlkffknodmaaGreatBTypes
import Derived.Test.YtllmlkffknodmaaGreatBWLaw1
import Derived.Test.YtllmlkffknodmaaGreatBScl
import Derived.KernelRfl
set_option linter.unusedVariables false
set_option linter.unusedSimpArgs false
namespace Go.Proofs.YtllmlkffknodmaaGreat
open Go Go.Bn
theorem rd23 : Rdr Tryz.prog 23 Nat (fun b => [u64p b]) (fun b => b < 2 ^ 64) := rd_u64 Tryz.underlying23 (by kernel_rfl)
theorem rd3 : Rdr Tryz.prog 3 Int (fun z => [isv (.int .i64 z)]) (fun z => (Lit.int .i64 z).wf = true) := rd_int Tryz.underlying3 (by kernel_rfl)
theorem c23 : Tryz.prog.cellsOf 23 = 1 := by kernel_rfl
theorem c3 : Tryz.prog.cellsOf 3 = 1 := by kernel_rfl
theorem b23 : Tryz.prog.bytesOf 23 = 8 := by kernel_rfl
theorem b3 : Tryz.prog.bytesOf 3 = 8 := by kernel_rfl
theorem rd22 : Rdr Tryz.prog 22 (List Nat) (fun bs => [wsl bs]) GoodU :=
  (rd_slice Tryz.underlying22 (by kernel_rfl) (by rw [c23]; decide) rd23).re id (fun xs h => ⟨h.1, by rw [b23] at h; exact Nat.le_trans h.2 (by decide)⟩) (fun xs => by rw [c23]; exact congrArg (fun p => [p]) flat_one)
theorem c78 : Tryz.prog.cellsOf 78 = 3 := by kernel_rfl
theorem b78 : Tryz.prog.bytesOf 78 = 40 := by kernel_rfl
theorem sd78 : Rdr Tryz.prog 78 (Int × Int × List Nat) (fun m => [isv (.int .i64 m.1), isv (.int .i64 m.2.1), wsl m.2.2]) (fun m => (Lit.int .i64 m.1).wf = true ∧ (Lit.int .i64 m.2.1).wf = true ∧ GoodU m.2.2) :=
  (rd_struct (fs := _) Tryz.underlying78 (fr_cons rfl rd3 (fr_cons (by rw [c3]) rd3 (fr_cons (by rw [c3]) rd22 fr_nil))) (fun a => by rw [c78]; rfl)).re (fun m => (m.1, m.2.1, m.2.2.1)) (fun a h => ⟨h.1, h.2.1, h.2.2.1⟩) (fun a => rfl)
theorem rd45 : Rdr Tryz.prog 45 (List Mt) (fun ms => [slk 3 mtW ms]) (fun ms => (∀ m, m ∈ ms → GoodU m.a) ∧ ms.length * 40 ≤ 140737488355328) :=
  (rd_slice Tryz.underlying45 (by kernel_rfl) (by rw [c78]; decide) (sd78.re (fun m => (⟨m.1, m.2.1, m.2.2⟩ : Mt)) (ok' := fun m => GoodU m.a) (mk' := mtW) (fun a h => h.2.2) (fun a => rfl))).re id (fun xs h => ⟨h.1, by rw [b78] at h; exact Nat.le_trans h.2 (by decide)⟩) (fun xs => by rw [c78]; rfl)
theorem op45 : Opens Tryz.prog 45 (List Mt) (fun ms => slk 3 mtW ms) (fun ms => (∀ m, m ∈ ms → GoodU m.a) ∧ ms.length * 40 ≤ 140737488355328) := op_scalar (.inr (.inr ⟨_, Tryz.underlying45⟩)) rd45
end Go.Proofs.YtllmlkffknodmaaGreat
