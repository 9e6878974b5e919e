/-
 How the arguments of the laws read. (Printed by a program of ours, opens_qr.py.)
-/
import Derived.Test.YtllkellonjhalaaGreatOoRow
import Derived.Test.YtllkellonjhalaaGreatProg
import Derived.Test.YtllkellonjhalaaGreatOoTypes
import Derived.Test.YtllkellonjhalaaGreatOoWLaw1
import Derived.Test.YtllkellonjhalaaGreatOoScl
import Derived.KernelRfl
set_option linter.unusedVariables false
set_option linter.unusedSimpArgs false
namespace Go.Proofs.YtllkellonjhalaaGreat
open Go Go.Bn
theorem rd34 : Rdr Tryz.prog 34 Nat (fun b => [u64p b]) (fun b => b < 2 ^ 64) := rd_u64 Tryz.underlying34 (by kernel_rfl)
theorem rd3 : Rdr Tryz.prog 3 Int (fun z => [isv (.int .i64 z)]) (fun z => (Lit.int .i64 z).wf = true) := rd_int Tryz.underlying3 (by kernel_rfl)
theorem c34 : Tryz.prog.cellsOf 34 = 1 := by kernel_rfl
theorem c3 : Tryz.prog.cellsOf 3 = 1 := by kernel_rfl
theorem b34 : Tryz.prog.bytesOf 34 = 8 := by kernel_rfl
theorem rd48 : Rdr Tryz.prog 48 (List Nat) (fun bs => [wsl bs]) GoodU :=
 (rd_slice Tryz.underlying48 (by kernel_rfl) (by rw [c34]; decide) rd34).re id (fun xs h => ⟨h.1, by rw [b34] at h; exact Nat.le_trans h.2 (by decide)⟩) (fun xs => by rw [c34]; exact congrArg (fun p => [p]) flat_one)
theorem c50 : Tryz.prog.cellsOf 50 = 3 := by kernel_rfl
theorem sd50 : Rdr Tryz.prog 50 (Int × Int × List Nat) (fun m => [isv (.int .i64 m.1), isv (.int .i64 m.2.1), wsl m.2.2]) (fun m => (Lit.int .i64 m.1).wf = true ∧ (Lit.int .i64 m.2.1).wf = true ∧ GoodU m.2.2) :=
 (rd_struct (fs := _) Tryz.underlying50 (fr_cons rfl rd3 (fr_cons (by rw [c3]) rd3 (fr_cons (by rw [c3]) rd48 fr_nil))) (fun a => by rw [c50]; rfl)).re (fun m => (m.1, m.2.1, m.2.2.1)) (fun a h => ⟨h.1, h.2.1, h.2.2.1⟩) (fun a => rfl)
theorem op50 : Opens Tryz.prog 50 (Int × Int × List Nat) (fun m => MatU m.1 m.2.1 m.2.2) (fun m => (Lit.int .i64 m.1).wf = true ∧ (Lit.int .i64 m.2.1).wf = true ∧ GoodU m.2.2) := op_agg Tryz.underlying50 sd50
end Go.Proofs.YtllkellonjhalaaGreat
