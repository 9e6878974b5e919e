/-
  How the arguments of the model's laws read.
-/
import Derived.Test.YtjfkpnacfnnkhaaDoorRow
import Derived.Test.YtjfkpnacfnnkhaaDoorProg
import Derived.Test.YtjfkpnacfnnkhaaDoorTypes
import Derived.Test.YtjfkpnacfnnkhaaDoorKd
import Derived.Test.YtjfkpnacfnnkhaaDoorWLaw1
import Derived.KernelRfl
set_option linter.unusedVariables false
set_option linter.unusedSimpArgs false
namespace Go.Proofs.YtjfkpnacfnnkhaaDoor
open Go Go.Bn
theorem rd24 : Rdr Tryd.prog 24 Nat (fun b => [u64p b]) (fun b => b < 2 ^ 64) := rd_u64 Tryd.underlying24 (by kernel_rfl)
theorem rd3 : Rdr Tryd.prog 3 Int (fun z => [isv (.int .i64 z)]) (fun z => (Lit.int .i64 z).wf = true) := rd_int Tryd.underlying3 (by kernel_rfl)
theorem rd2 : Rdr Tryd.prog 2 Int (fun z => [isv (.int .i64 z)]) (fun z => (Lit.int .i64 z).wf = true) := rd_int Tryd.underlying2 (by kernel_rfl)
theorem c24 : Tryd.prog.cellsOf 24 = 1 := by kernel_rfl
theorem c3 : Tryd.prog.cellsOf 3 = 1 := by kernel_rfl
theorem b24 : Tryd.prog.bytesOf 24 = 8 := by kernel_rfl
theorem b3 : Tryd.prog.bytesOf 3 = 8 := by kernel_rfl
theorem c56 : Tryd.prog.cellsOf 56 = 4 := by kernel_rfl
theorem b56 : Tryd.prog.bytesOf 56 = 32 := by kernel_rfl
theorem c26 : Tryd.prog.cellsOf 26 = 6 := by kernel_rfl
theorem c23 : Tryd.prog.cellsOf 23 = 1 := by kernel_rfl
theorem rd23 : Rdr Tryd.prog 23 (List Nat) (fun bs => [wsl bs]) GoodU :=
  (rd_slice Tryd.underlying23 (by kernel_rfl) (by rw [c24]; decide) rd24).re id (fun xs h => ⟨h.1, by rw [b24] at h; exact Nat.le_trans h.2 (by decide)⟩) (fun xs => by rw [c24]; exact congrArg (fun p => [p]) flat_one)
theorem rd27 : Rdr Tryd.prog 27 (List Int) (fun zs => [slm (fun z => isv (.int .i64 z)) zs]) (fun zs => (∀ z, z ∈ zs → (Lit.int .i64 z).wf = true) ∧ zs.length * 8 ≤ 140737488351232) :=
  (rd_slice Tryd.underlying27 (by kernel_rfl) (by rw [c3]; decide) rd3).re id (fun xs h => ⟨h.1, by rw [b3] at h; exact h.2⟩) (fun xs => by rw [c3]; exact congrArg (fun p => [p]) flat_one)
theorem rd56 : Rdr Tryd.prog 56 Prt prtU (fun p => p.n < 2 ^ 64 ∧ p.f < 2 ^ 64) :=
  (rd_struct (fs := _) Tryd.underlying56 (fr_cons rfl rd3 (fr_cons (by rw [c3]) rd3 (fr_cons (by rw [c3]) rd24 (fr_cons (by rw [c3, c24]) rd24 fr_nil)))) (fun a => by rw [c56]; rfl)).re (fun m => ⟨m.1, m.2.1, m.2.2.1, m.2.2.2.1⟩) (fun a h => ⟨h.2.2.1, h.2.2.2.1⟩) (fun a => rfl)
theorem rd22 : Rdr Tryd.prog 22 (List Prt) (fun ls => [slk 4 prtU ls]) GoodL :=
  (rd_slice Tryd.underlying22 (by kernel_rfl) (by rw [c56]; decide) rd56).re id (fun xs h => ⟨h.1, by rw [b56] at h; exact Nat.le_trans h.2 (by decide)⟩) (fun xs => by rw [c56]; rfl)
theorem op23 : Opens Tryd.prog 23 (List Nat) (fun bs => wsl bs) GoodU := op_scalar (.inr (.inr ⟨_, Tryd.underlying23⟩)) rd23
theorem op3 : Opens Tryd.prog 3 Int (fun z => isv (.int .i64 z)) (fun z => (Lit.int .i64 z).wf = true) := op_scalar (.inl ⟨_, Tryd.underlying3⟩) rd3
theorem op2 : Opens Tryd.prog 2 Int (fun z => isv (.int .i64 z)) (fun z => (Lit.int .i64 z).wf = true) := op_scalar (.inl ⟨_, Tryd.underlying2⟩) rd2
theorem op27 : Opens Tryd.prog 27 (List Int) (fun zs => slm (fun z => isv (.int .i64 z)) zs) (fun zs => (∀ z, z ∈ zs → (Lit.int .i64 z).wf = true) ∧ zs.length * 8 ≤ 140737488351232) := op_scalar (.inr (.inr ⟨_, Tryd.underlying27⟩)) rd27
theorem op22 : Opens Tryd.prog 22 (List Prt) (fun ls => slk 4 prtU ls) GoodL := op_scalar (.inr (.inr ⟨_, Tryd.underlying22⟩)) rd22
theorem op26 : Opens Tryd.prog 26 (Int × Int × Int × List Nat × List Nat × Nat) (fun m => aggp [isv (.int .i64 m.1), isv (.int .i64 m.2.1), isv (.int .i64 m.2.2.1), wsl m.2.2.2.1, wsl m.2.2.2.2.1, u64p m.2.2.2.2.2]) (fun m => (Lit.int .i64 m.1).wf = true ∧ GoodU m.2.2.2.1 ∧ GoodU m.2.2.2.2.1 ∧ m.2.2.2.2.2 < 2 ^ 64) :=
  (op_agg Tryd.underlying26 (rd_struct (fs := _) Tryd.underlying26 (fr_cons rfl rd3 (fr_cons (by rw [c3]) rd3 (fr_cons (by rw [c3]) rd3 (fr_cons (by rw [c3]) rd23 (fr_cons (by rw [c3, c23]) rd23 (fr_cons (by rw [c3, c23]) rd24 fr_nil)))))) (fun a => by rw [c26]; rfl))).re (fun m => (m.1, m.2.1, m.2.2.1, m.2.2.2.1, m.2.2.2.2.1, m.2.2.2.2.2.1)) (fun a h => ⟨h.1, h.2.2.2.1, h.2.2.2.2.1, h.2.2.2.2.2.1⟩) (fun a => rfl)
end Go.Proofs.YtjfkpnacfnnkhaaDoor
