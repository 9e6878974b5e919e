/-
  How the arguments of the model's laws read.
-/
import Derived.Test.YtcnffgbncbadbaaDoorRow
import Derived.Test.YtcnffgbncbadbaaDoorProg
import Derived.Test.YtcnffgbncbadbaaDoorTypes
import Derived.Test.YtcnffgbncbadbaaDoorLay
import Derived.Test.YtcnffgbncbadbaaDoorWLaw1
import Derived.KernelRfl
set_option linter.unusedVariables false
set_option linter.unusedSimpArgs false
namespace Go.Proofs.YtcnffgbncbadbaaDoor
open Go Go.Bn
theorem rd59 : Rdr Tryd.prog 59 Nat (fun b => [u64p b]) (fun b => b < 2 ^ 64) := rd_u64 Tryd.underlying59 (by kernel_rfl)
theorem rd3 : Rdr Tryd.prog 3 Int (fun z => [isv (.int .i64 z)]) (fun z => (Lit.int .i64 z).wf = true) := rd_int Tryd.underlying3 (by kernel_rfl)
theorem rd2 : Rdr Tryd.prog 2 Int (fun z => [isv (.int .i64 z)]) (fun z => (Lit.int .i64 z).wf = true) := rd_int Tryd.underlying2 (by kernel_rfl)
theorem c59 : Tryd.prog.cellsOf 59 = 1 := by kernel_rfl
theorem c3 : Tryd.prog.cellsOf 3 = 1 := by kernel_rfl
theorem b59 : Tryd.prog.bytesOf 59 = 8 := by kernel_rfl
theorem b3 : Tryd.prog.bytesOf 3 = 8 := by kernel_rfl
theorem c76 : Tryd.prog.cellsOf 76 = 4 := by kernel_rfl
theorem b76 : Tryd.prog.bytesOf 76 = 32 := by kernel_rfl
theorem c63 : Tryd.prog.cellsOf 63 = 6 := by kernel_rfl
theorem c44 : Tryd.prog.cellsOf 44 = 1 := by kernel_rfl
theorem rd44 : Rdr Tryd.prog 44 (List Nat) (fun bs => [wsl bs]) GoodU :=
  (rd_slice Tryd.underlying44 (by kernel_rfl) (by rw [c59]; decide) rd59).re id (fun xs h => ⟨h.1, by rw [b59] at h; exact Nat.le_trans h.2 (by decide)⟩) (fun xs => by rw [c59]; exact congrArg (fun p => [p]) flat_one)
theorem rd43 : Rdr Tryd.prog 43 (List Int) (fun zs => [slm (fun z => isv (.int .i64 z)) zs]) (fun zs => (∀ z, z ∈ zs → (Lit.int .i64 z).wf = true) ∧ zs.length * 8 ≤ 140737488351232) :=
  (rd_slice Tryd.underlying43 (by kernel_rfl) (by rw [c3]; decide) rd3).re id (fun xs h => ⟨h.1, by rw [b3] at h; exact h.2⟩) (fun xs => by rw [c3]; exact congrArg (fun p => [p]) flat_one)
theorem rd76 : Rdr Tryd.prog 76 Prt prtU (fun p => p.n < 2 ^ 64 ∧ p.f < 2 ^ 64) :=
  (rd_struct (fs := _) Tryd.underlying76 (fr_cons rfl rd3 (fr_cons (by rw [c3]) rd3 (fr_cons (by rw [c3]) rd59 (fr_cons (by rw [c3, c59]) rd59 fr_nil)))) (fun a => by rw [c76]; rfl)).re (fun m => ⟨m.1, m.2.1, m.2.2.1, m.2.2.2.1⟩) (fun a h => ⟨h.2.2.1, h.2.2.2.1⟩) (fun a => rfl)
theorem rd22 : Rdr Tryd.prog 22 (List Prt) (fun ls => [slk 4 prtU ls]) GoodL :=
  (rd_slice Tryd.underlying22 (by kernel_rfl) (by rw [c76]; decide) rd76).re id (fun xs h => ⟨h.1, by rw [b76] at h; exact Nat.le_trans h.2 (by decide)⟩) (fun xs => by rw [c76]; rfl)
theorem op44 : Opens Tryd.prog 44 (List Nat) (fun bs => wsl bs) GoodU := op_scalar (.inr (.inr ⟨_, Tryd.underlying44⟩)) rd44
theorem op3 : Opens Tryd.prog 3 Int (fun z => isv (.int .i64 z)) (fun z => (Lit.int .i64 z).wf = true) := op_scalar (.inl ⟨_, Tryd.underlying3⟩) rd3
theorem op2 : Opens Tryd.prog 2 Int (fun z => isv (.int .i64 z)) (fun z => (Lit.int .i64 z).wf = true) := op_scalar (.inl ⟨_, Tryd.underlying2⟩) rd2
theorem op43 : Opens Tryd.prog 43 (List Int) (fun zs => slm (fun z => isv (.int .i64 z)) zs) (fun zs => (∀ z, z ∈ zs → (Lit.int .i64 z).wf = true) ∧ zs.length * 8 ≤ 140737488351232) := op_scalar (.inr (.inr ⟨_, Tryd.underlying43⟩)) rd43
theorem op22 : Opens Tryd.prog 22 (List Prt) (fun ls => slk 4 prtU ls) GoodL := op_scalar (.inr (.inr ⟨_, Tryd.underlying22⟩)) rd22
theorem op63 : Opens Tryd.prog 63 (Int × Int × Int × List Nat × List Nat × Nat) (fun m => aggp [isv (.int .i64 m.1), isv (.int .i64 m.2.1), isv (.int .i64 m.2.2.1), wsl m.2.2.2.1, wsl m.2.2.2.2.1, u64p m.2.2.2.2.2]) (fun m => (Lit.int .i64 m.1).wf = true ∧ GoodU m.2.2.2.1 ∧ GoodU m.2.2.2.2.1 ∧ m.2.2.2.2.2 < 2 ^ 64) :=
  (op_agg Tryd.underlying63 (rd_struct (fs := _) Tryd.underlying63 (fr_cons rfl rd3 (fr_cons (by rw [c3]) rd3 (fr_cons (by rw [c3]) rd3 (fr_cons (by rw [c3]) rd44 (fr_cons (by rw [c3, c44]) rd44 (fr_cons (by rw [c3, c44]) rd59 fr_nil)))))) (fun a => by rw [c63]; rfl))).re (fun m => (m.1, m.2.1, m.2.2.1, m.2.2.2.1, m.2.2.2.2.1, m.2.2.2.2.2.1)) (fun a h => ⟨h.1, h.2.2.2.1, h.2.2.2.2.1, h.2.2.2.2.2.1⟩) (fun a => rfl)
end Go.Proofs.YtcnffgbncbadbaaDoor
