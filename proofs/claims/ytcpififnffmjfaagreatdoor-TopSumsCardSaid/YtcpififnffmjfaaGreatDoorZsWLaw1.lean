/- Printed by a program of ours (walk.py): walks of the eighth law package, its helpers. -/
import Derived.Test.YtcpififnffmjfaaGreatDoorZsKb
import Derived.Test.YtcpififnffmjfaaGreatDoorProg
import Derived.KernelRfl
import Derived.Test.YtcpififnffmjfaaGreatDoorZsTypes
import Derived.Test.YtcpififnffmjfaaGreatDoorZsWRef1
import Derived.Test.YtcpififnffmjfaaGreatDoorZsKc
set_option linter.unusedVariables false
set_option linter.unusedSimpArgs false
set_option maxRecDepth 20000
set_option maxHeartbeats 1000000
namespace Go.Proofs.YtcpififnffmjfaaGreatDoor
open Go Go.Bn
attribute [local irreducible] OpOK
def GoodU (bs : List Nat) : Prop := (∀ b, b ∈ bs → b < 2 ^ 64) ∧ bs.length * 8 ≤ 140737488355328
end Go.Proofs.YtcpififnffmjfaaGreatDoor
