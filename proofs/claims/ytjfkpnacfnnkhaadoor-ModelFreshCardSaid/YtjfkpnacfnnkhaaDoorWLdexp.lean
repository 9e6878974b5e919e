/- Printed by a program of ours (walk.py): walks of exponents and powers of two. -/
import Derived.Test.YtjfkpnacfnnkhaaDoorKb
import Derived.Test.YtjfkpnacfnnkhaaDoorProg
import Derived.KernelRfl
import Derived.Test.YtjfkpnacfnnkhaaDoorTypes
import Derived.Test.YtjfkpnacfnnkhaaDoorWRef8
import Derived.Test.YtjfkpnacfnnkhaaDoorKc
import Derived.Test.YtjfkpnacfnnkhaaDoorKd
set_option linter.unusedVariables false
set_option linter.unusedSimpArgs false
set_option maxRecDepth 20000
set_option maxHeartbeats 1000000
namespace Go.Proofs.YtjfkpnacfnnkhaaDoor
open Go Go.Bn
attribute [local irreducible] OpOK
end Go.Proofs.YtjfkpnacfnnkhaaDoor
