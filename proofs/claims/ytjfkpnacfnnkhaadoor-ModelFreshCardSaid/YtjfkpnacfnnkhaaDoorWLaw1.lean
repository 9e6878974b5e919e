/- Printed by a program of ours (walk.py): walks of the eighth law package, its helpers. -/
import Derived.Test.YtjfkpnacfnnkhaaDoorKb
import Derived.Test.YtjfkpnacfnnkhaaDoorProg
import Derived.KernelRfl
import Derived.Test.YtjfkpnacfnnkhaaDoorTypes
import Derived.Test.YtjfkpnacfnnkhaaDoorWMat2
set_option linter.unusedVariables false
set_option linter.unusedSimpArgs false
set_option maxRecDepth 20000
set_option maxHeartbeats 1000000
namespace Go.Proofs.YtjfkpnacfnnkhaaDoor
open Go Go.Bn
attribute [local irreducible] OpOK
def GoodU (bs : List Nat) : Prop := (∀ b, b ∈ bs → b < 2 ^ 64) ∧ bs.length * 8 ≤ 140737488355328
theorem aw1 : mulR 2 2 [4607182418800017408, 4611686018427387904, 4613937818241073152, 4616189618054758400] 2 2 [0, 4607182418800017408, 4607182418800017408, 0] = ⟨2, 2, [4611686018427387904, 4607182418800017408, 4616189618054758400, 4613937818241073152], 0⟩ := MR.eq4 (by decide +kernel)
theorem aw2 : meanR 2 2 [4607182418800017408, 4611686018427387904, 4616189618054758400, 4607182418800017408] = ⟨2, 2, [4607182418800017408, 4613937818241073152, 4613937818241073152, 4607182418800017408], 0⟩ := MR.eq4 (by decide +kernel)
theorem aw3 : sandR 1 2 [4607182418800017408, 4611686018427387904] 2 2 [4607182418800017408, 0, 0, 4607182418800017408] = ⟨1, 1, [4617315517961601024], 0⟩ := MR.eq4 (by decide +kernel)
theorem awm4 : Ct Tryd.prog 41 [MatP 2 2 [4607182418800017408, 4611686018427387904, 4613937818241073152, 4616189618054758400]] (isv (.int .i64 0)) := (show chk 2 2 [4607182418800017408, 4611686018427387904, 4613937818241073152, 4616189618054758400] = 0 from by decide +kernel) ▸ chk_ok
end Go.Proofs.YtjfkpnacfnnkhaaDoor
