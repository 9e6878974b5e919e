/-
 How the arguments of the laws read. (Printed by a program of ours, opens_qr.py.)
-/
import Derived.Test.YtllkellonjhalaaFqRow
import Derived.Test.YtllkellonjhalaaProg
import Derived.Test.YtllkellonjhalaaFqTypes
import Derived.Test.YtllkellonjhalaaFqWLaw1
import Derived.Test.YtllkellonjhalaaFqScl
import Derived.KernelRfl
set_option linter.unusedVariables false
set_option linter.unusedSimpArgs false
namespace Go.Proofs.Ytllkellonjhalaa
open Go Go.Bn
theorem rd26 : Rdr Try.prog 26 Nat (fun b => [u64p b]) (fun b => b < 2 ^ 64) := rd_u64 Try.underlying26 (by kernel_rfl)
theorem rd3 : Rdr Try.prog 3 Int (fun z => [isv (.int .i64 z)]) (fun z => (Lit.int .i64 z).wf = true) := rd_int Try.underlying3 (by kernel_rfl)
theorem c26 : Try.prog.cellsOf 26 = 1 := by kernel_rfl
theorem c3 : Try.prog.cellsOf 3 = 1 := by kernel_rfl
theorem b26 : Try.prog.bytesOf 26 = 8 := by kernel_rfl
theorem b3 : Try.prog.bytesOf 3 = 8 := by kernel_rfl
theorem rd22 : Rdr Try.prog 22 (List Nat) (fun bs => [wsl bs]) GoodU :=
 (rd_slice Try.underlying22 (by kernel_rfl) (by rw [c26]; decide) rd26).re id (fun xs h => ⟨h.1, by rw [b26] at h; exact Nat.le_trans h.2 (by decide)⟩) (fun xs => by rw [c26]; exact congrArg (fun p => [p]) flat_one)
theorem op22 : Opens Try.prog 22 (List Nat) (fun bs => wsl bs) GoodU := op_scalar (.inr (.inr ⟨_, Try.underlying22⟩)) rd22
theorem op3 : Opens Try.prog 3 Int (fun z => isv (.int .i64 z)) (fun z => (Lit.int .i64 z).wf = true) := op_scalar (.inl ⟨_, Try.underlying3⟩) rd3
theorem op26 : Opens Try.prog 26 Nat (fun b => u64p b) (fun b => b < 2 ^ 64) := op_scalar (.inl ⟨_, Try.underlying26⟩) rd26
theorem c24 : Try.prog.cellsOf 24 = 3 := by kernel_rfl
theorem b24 : Try.prog.bytesOf 24 = 40 := by kernel_rfl
theorem sd24 : Rdr Try.prog 24 (Int × Int × List Nat) (fun m => [isv (.int .i64 m.1), isv (.int .i64 m.2.1), wsl m.2.2]) (fun m => (Lit.int .i64 m.1).wf = true ∧ (Lit.int .i64 m.2.1).wf = true ∧ GoodU m.2.2) :=
 (rd_struct (fs := _) Try.underlying24 (fr_cons rfl rd3 (fr_cons (by rw [c3]) rd3 (fr_cons (by rw [c3]) rd22 fr_nil))) (fun a => by rw [c24]; rfl)).re (fun m => (m.1, m.2.1, m.2.2.1)) (fun a h => ⟨h.1, h.2.1, h.2.2.1⟩) (fun a => rfl)
theorem op24 : Opens Try.prog 24 (Int × Int × List Nat) (fun m => MatU m.1 m.2.1 m.2.2) (fun m => (Lit.int .i64 m.1).wf = true ∧ (Lit.int .i64 m.2.1).wf = true ∧ GoodU m.2.2) := op_agg Try.underlying24 sd24
theorem rs25 : Rdr Try.prog 25 (List Mt) (fun ms => [slk 3 mtW ms]) (fun ms => (∀ m, m ∈ ms → GoodU m.a) ∧ ms.length * 40 ≤ 140737488351232) :=
 (rd_slice Try.underlying25 (by kernel_rfl) (by rw [c24]; decide) (sd24.re (fun m => (⟨m.1, m.2.1, m.2.2⟩ : Mt)) (ok' := fun m => GoodU m.a) (mk' := mtW) (fun a h => h.2.2) (fun a => rfl))).re id (fun xs h => ⟨h.1, by rw [b24] at h; exact h.2⟩) (fun xs => by rw [c24]; rfl)
theorem os25 : Opens Try.prog 25 (List Mt) (fun ms => slk 3 mtW ms) (fun ms => (∀ m, m ∈ ms → GoodU m.a) ∧ ms.length * 40 ≤ 140737488351232) := op_scalar (.inr (.inr ⟨_, Try.underlying25⟩)) rs25
end Go.Proofs.Ytllkellonjhalaa
