/-
  How the arguments of the matrix laws read.
-/
import Derived.Test.YtdnemaecalghbaaRow
import Derived.Test.YtdnemaecalghbaaProg
import Derived.Test.YtdnemaecalghbaaTypes
import Derived.Test.YtdnemaecalghbaaWLaw1
import Derived.KernelRfl
set_option linter.unusedVariables false
set_option linter.unusedSimpArgs false
namespace Go.Proofs.Ytdnemaecalghbaa
open Go Go.Bn
theorem rd55 : Rdr Try.prog 55 Nat (fun b => [u64p b]) (fun b => b < 2 ^ 64) := rd_u64 Try.underlying55 (by kernel_rfl)
theorem rd3 : Rdr Try.prog 3 Int (fun z => [isv (.int .i64 z)]) (fun z => (Lit.int .i64 z).wf = true) := rd_int Try.underlying3 (by kernel_rfl)
theorem c55 : Try.prog.cellsOf 55 = 1 := by kernel_rfl
theorem c3 : Try.prog.cellsOf 3 = 1 := by kernel_rfl
theorem b55 : Try.prog.bytesOf 55 = 8 := by kernel_rfl
theorem b3 : Try.prog.bytesOf 3 = 8 := by kernel_rfl
theorem rd22 : Rdr Try.prog 22 (List Nat) (fun bs => [wsl bs]) GoodU :=
  (rd_slice Try.underlying22 (by kernel_rfl) (by rw [c55]; decide) rd55).re id (fun xs h => ⟨h.1, by rw [b55] at h; exact Nat.le_trans h.2 (by decide)⟩) (fun xs => by rw [c55]; exact congrArg (fun p => [p]) flat_one)
theorem rd88 : Rdr Try.prog 88 (List Int) (fun zs => [slm (fun z => isv (.int .i64 z)) zs]) (fun zs => (∀ z, z ∈ zs → (Lit.int .i64 z).wf = true) ∧ zs.length * 8 ≤ 140737488351232) :=
  (rd_slice Try.underlying88 (by kernel_rfl) (by rw [c3]; decide) rd3).re id (fun xs h => ⟨h.1, by rw [b3] at h; exact h.2⟩) (fun xs => by rw [c3]; exact congrArg (fun p => [p]) flat_one)
theorem op22 : Opens Try.prog 22 (List Nat) (fun bs => wsl bs) GoodU := op_scalar (.inr (.inr ⟨_, Try.underlying22⟩)) rd22
theorem op3 : Opens Try.prog 3 Int (fun z => isv (.int .i64 z)) (fun z => (Lit.int .i64 z).wf = true) := op_scalar (.inl ⟨_, Try.underlying3⟩) rd3
theorem op55 : Opens Try.prog 55 Nat (fun b => u64p b) (fun b => b < 2 ^ 64) := op_scalar (.inl ⟨_, Try.underlying55⟩) rd55
theorem op88 : Opens Try.prog 88 (List Int) (fun zs => slm (fun z => isv (.int .i64 z)) zs) (fun zs => (∀ z, z ∈ zs → (Lit.int .i64 z).wf = true) ∧ zs.length * 8 ≤ 140737488351232) := op_scalar (.inr (.inr ⟨_, Try.underlying88⟩)) rd88
theorem c22' : Try.prog.cellsOf 22 = 1 := by kernel_rfl
theorem b22 : Try.prog.bytesOf 22 = 24 := by kernel_rfl
theorem rd77 : Rdr Try.prog 77 (List (List Nat)) (fun bss => [slm wsl bss]) (fun bss => (∀ b, b ∈ bss → GoodU b) ∧ bss.length * 24 ≤ 140737488351232) :=
  (rd_slice Try.underlying77 (by kernel_rfl) (by rw [c22']; decide) rd22).re id (fun xs h => ⟨h.1, by rw [b22] at h; exact h.2⟩) (fun xs => by rw [c22']; exact congrArg (fun p => [p]) flat_one)
theorem op77 : Opens Try.prog 77 (List (List Nat)) (fun bss => slm wsl bss) (fun bss => (∀ b, b ∈ bss → GoodU b) ∧ bss.length * 24 ≤ 140737488351232) := op_scalar (.inr (.inr ⟨_, Try.underlying77⟩)) rd77
theorem c22 : Try.prog.cellsOf 22 = 1 := by kernel_rfl
theorem c24 : Try.prog.cellsOf 24 = 3 := by kernel_rfl
theorem op24 : Opens Try.prog 24 (Int × Int × List Nat) (fun m => MatU m.1 m.2.1 m.2.2) (fun m => (Lit.int .i64 m.1).wf = true ∧ (Lit.int .i64 m.2.1).wf = true ∧ GoodU m.2.2) :=
  (op_agg Try.underlying24 (rd_struct (fs := _) Try.underlying24 (fr_cons rfl rd3 (fr_cons (by rw [c3]) rd3 (fr_cons (by rw [c3]) rd22 fr_nil))) (fun a => by rw [c24]; rfl))).re (fun m => (m.1, m.2.1, m.2.2.1)) (fun a h => ⟨h.1, h.2.1, h.2.2.1⟩) (fun a => rfl)
end Go.Proofs.Ytdnemaecalghbaa
