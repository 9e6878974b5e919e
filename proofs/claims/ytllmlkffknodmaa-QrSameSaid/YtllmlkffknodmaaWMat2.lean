/- Printed by a program of ours (walk.py): walks of the matrix package: what the matrix of awake and of turning reach. -/
import Derived.Test.YtllmlkffknodmaaKb
import Derived.Test.YtllmlkffknodmaaProg
import Derived.KernelRfl
import Derived.Test.YtllmlkffknodmaaTypes
import Derived.Test.YtllmlkffknodmaaWMat1
import Derived.Test.YtllmlkffknodmaaKc
set_option linter.unusedVariables false
set_option linter.unusedSimpArgs false
set_option maxRecDepth 20000
set_option maxHeartbeats 1000000
namespace Go.Proofs.Ytllmlkffknodmaa
open Go Go.Bn
attribute [local irreducible] OpOK
end Go.Proofs.Ytllmlkffknodmaa
