/- Printed by a program of ours (walk.py): facts on the types. -/
import Derived.Test.YtcnffgbncbadbaaTyp
import Derived.Test.YtcnffgbncbadbaaProg
import Derived.KernelRfl
namespace Go.Proofs.Ytcnffgbncbadbaa
open Go Go.Bn
theorem mixed : Try.prog.follows .mixedOrders = true := by kernel_rfl
theorem ag105 : agT Try.prog 105 = some 3 := by kernel_rfl
theorem ag154 : agT Try.prog 154 = some 3 := by kernel_rfl
theorem ag26 : agT Try.prog 26 = some 1 := by kernel_rfl
theorem ag34 : agT Try.prog 34 = some 3 := by kernel_rfl
theorem ag61 : agT Try.prog 61 = some 2 := by kernel_rfl
theorem ag86 : agT Try.prog 86 = some 4 := by kernel_rfl
theorem ar159 : arT Try.prog 159 = some (2, 154, 3) := by kernel_rfl
theorem f6438 : f64T Try.prog 38 = true := by kernel_rfl
theorem fd102_0 : fdT Try.prog 102 0 = some (0, 1) := by kernel_rfl
theorem fd102_1 : fdT Try.prog 102 1 = some (1, 1) := by kernel_rfl
theorem fd105_0 : fdT Try.prog 105 0 = some (0, 1) := by kernel_rfl
theorem fd105_1 : fdT Try.prog 105 1 = some (1, 1) := by kernel_rfl
theorem fd105_2 : fdT Try.prog 105 2 = some (2, 1) := by kernel_rfl
theorem fd154_0 : fdT Try.prog 154 0 = some (0, 1) := by kernel_rfl
theorem fd154_1 : fdT Try.prog 154 1 = some (1, 1) := by kernel_rfl
theorem fd26_0 : fdT Try.prog 26 0 = some (0, 1) := by kernel_rfl
theorem fd34_0 : fdT Try.prog 34 0 = some (0, 1) := by kernel_rfl
theorem fd34_1 : fdT Try.prog 34 1 = some (1, 1) := by kernel_rfl
theorem fd34_2 : fdT Try.prog 34 2 = some (2, 1) := by kernel_rfl
theorem fd41_0 : fdT Try.prog 41 0 = some (0, 1) := by kernel_rfl
theorem fd41_1 : fdT Try.prog 41 1 = some (1, 1) := by kernel_rfl
theorem fd41_2 : fdT Try.prog 41 2 = some (2, 1) := by kernel_rfl
theorem fd41_3 : fdT Try.prog 41 3 = some (3, 1) := by kernel_rfl
theorem fd61_0 : fdT Try.prog 61 0 = some (0, 1) := by kernel_rfl
theorem fd61_1 : fdT Try.prog 61 1 = some (1, 1) := by kernel_rfl
theorem fd86_0 : fdT Try.prog 86 0 = some (0, 1) := by kernel_rfl
theorem fd86_1 : fdT Try.prog 86 1 = some (1, 1) := by kernel_rfl
theorem fd86_2 : fdT Try.prog 86 2 = some (2, 1) := by kernel_rfl
theorem fd86_3 : fdT Try.prog 86 3 = some (3, 1) := by kernel_rfl
theorem ft61_0 : fieldT Try.prog 61 0 = some 59 := by kernel_rfl
theorem it127 : itT Try.prog 127 = some .u64 := by kernel_rfl
theorem it151 : itT Try.prog 151 = some .u32 := by kernel_rfl
theorem it2 : itT Try.prog 2 = some .i64 := by kernel_rfl
theorem it3 : itT Try.prog 3 = some .i64 := by kernel_rfl
theorem it39 : itT Try.prog 39 = some .u64 := by kernel_rfl
theorem pl102 : plT Try.prog 102 = some [(0, 1), (1, 1)] := by kernel_rfl
theorem pl105 : plT Try.prog 105 = some [(0, 1), (1, 1), (2, 1)] := by kernel_rfl
theorem pl154 : plT Try.prog 154 = some [(0, 1), (1, 1), (2, 1)] := by kernel_rfl
theorem pl26 : plT Try.prog 26 = some [(0, 1)] := by kernel_rfl
theorem pl34 : plT Try.prog 34 = some [(0, 1), (1, 1), (2, 1)] := by kernel_rfl
theorem pl61 : plT Try.prog 61 = some [(0, 1), (1, 1)] := by kernel_rfl
theorem pl86 : plT Try.prog 86 = some [(0, 1), (1, 1), (2, 1), (3, 1)] := by kernel_rfl
theorem sc100 : scT Try.prog 100 = true := by kernel_rfl
theorem sc127 : scT Try.prog 127 = true := by kernel_rfl
theorem sc151 : scT Try.prog 151 = true := by kernel_rfl
theorem sc24 : scT Try.prog 24 = true := by kernel_rfl
theorem sc28 : scT Try.prog 28 = true := by kernel_rfl
theorem sc3 : scT Try.prog 3 = true := by kernel_rfl
theorem sc32 : scT Try.prog 32 = true := by kernel_rfl
theorem sc38 : scT Try.prog 38 = true := by kernel_rfl
theorem sc39 : scT Try.prog 39 = true := by kernel_rfl
theorem sc4 : scT Try.prog 4 = true := by kernel_rfl
theorem sc59 : scT Try.prog 59 = true := by kernel_rfl
theorem sl100 : slT Try.prog 100 = some (151, 1, 4) := by kernel_rfl
theorem sl157 : slT Try.prog 157 = some (28, 1, 8) := by kernel_rfl
theorem sl22 : slT Try.prog 22 = some (41, 4, 32) := by kernel_rfl
theorem sl24 : slT Try.prog 24 = some (86, 4, 32) := by kernel_rfl
theorem sl32 : slT Try.prog 32 = some (38, 1, 8) := by kernel_rfl
theorem sl68 : slT Try.prog 68 = some (39, 1, 8) := by kernel_rfl
theorem sl90 : slT Try.prog 90 = some (32, 1, 24) := by kernel_rfl
theorem sz100 : szT Try.prog 100 = some 1 := by kernel_rfl
theorem sz105 : szT Try.prog 105 = some 3 := by kernel_rfl
theorem sz151 : szT Try.prog 151 = some 1 := by kernel_rfl
theorem sz154 : szT Try.prog 154 = some 3 := by kernel_rfl
theorem sz24 : szT Try.prog 24 = some 1 := by kernel_rfl
theorem sz26 : szT Try.prog 26 = some 1 := by kernel_rfl
theorem sz32 : szT Try.prog 32 = some 1 := by kernel_rfl
theorem sz34 : szT Try.prog 34 = some 3 := by kernel_rfl
theorem sz38 : szT Try.prog 38 = some 1 := by kernel_rfl
theorem sz4 : szT Try.prog 4 = some 1 := by kernel_rfl
theorem sz61 : szT Try.prog 61 = some 2 := by kernel_rfl
theorem sz86 : szT Try.prog 86 = some 4 := by kernel_rfl
theorem zr102 : zrT Try.prog 102 = some [.bool false, .slice none 0 0] := by kernel_rfl
theorem zr105 : zrT Try.prog 105 = some [.bool false, .int .u64 0, .int .i64 0] := by kernel_rfl
theorem zr151 : zrT Try.prog 151 = some [.int .u32 0] := by kernel_rfl
theorem zr154 : zrT Try.prog 154 = some [.int .u64 0, .int .i64 0, .int .i64 0] := by kernel_rfl
theorem zr159 : zrT Try.prog 159 = some [.int .u64 0, .int .i64 0, .int .i64 0, .int .u64 0, .int .i64 0, .int .i64 0] := by kernel_rfl
theorem zr26 : zrT Try.prog 26 = some [.slice none 0 0] := by kernel_rfl
theorem zr28 : zrT Try.prog 28 = some [.int .i64 0] := by kernel_rfl
theorem zr32 : zrT Try.prog 32 = some [.slice none 0 0] := by kernel_rfl
theorem zr34 : zrT Try.prog 34 = some [.int .i64 0, .int .i64 0, .slice none 0 0] := by kernel_rfl
theorem zr38 : zrT Try.prog 38 = some [.float .f64 0] := by kernel_rfl
theorem zr61 : zrT Try.prog 61 = some [.pointer none, .int .i64 0] := by kernel_rfl
theorem zr86 : zrT Try.prog 86 = some [.int .i64 0, .int .i64 0, .float .f64 0, .float .f64 0] := by kernel_rfl
end Go.Proofs.Ytcnffgbncbadbaa
