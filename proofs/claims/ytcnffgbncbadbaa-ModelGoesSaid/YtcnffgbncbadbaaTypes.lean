/- Printed by a program of ours (walk.py): facts on the types. -/
import Derived.Test.YtcnffgbncbadbaaTyp
import Derived.Test.YtcnffgbncbadbaaProg
import Derived.KernelRfl
namespace Go.Proofs.Ytcnffgbncbadbaa
open Go Go.Bn
theorem mixed : Try.prog.follows .mixedOrders = true := by kernel_rfl
theorem ag154 : agT Try.prog 154 = some 3 := by kernel_rfl
theorem ag26 : agT Try.prog 26 = some 1 := by kernel_rfl
theorem ag34 : agT Try.prog 34 = some 3 := by kernel_rfl
theorem ag70 : agT Try.prog 70 = some 6 := by kernel_rfl
theorem ag75 : agT Try.prog 75 = some 9 := by kernel_rfl
theorem ag86 : agT Try.prog 86 = some 4 := by kernel_rfl
theorem ar159 : arT Try.prog 159 = some (2, 154, 3) := by kernel_rfl
theorem f6438 : f64T Try.prog 38 = true := by kernel_rfl
theorem fd154_0 : fdT Try.prog 154 0 = some (0, 1) := by kernel_rfl
theorem fd154_1 : fdT Try.prog 154 1 = some (1, 1) := by kernel_rfl
theorem fd26_0 : fdT Try.prog 26 0 = some (0, 1) := by kernel_rfl
theorem fd34_0 : fdT Try.prog 34 0 = some (0, 1) := by kernel_rfl
theorem fd34_1 : fdT Try.prog 34 1 = some (1, 1) := by kernel_rfl
theorem fd34_2 : fdT Try.prog 34 2 = some (2, 1) := by kernel_rfl
theorem fd41_0 : fdT Try.prog 41 0 = some (0, 1) := by kernel_rfl
theorem fd41_1 : fdT Try.prog 41 1 = some (1, 1) := by kernel_rfl
theorem fd41_2 : fdT Try.prog 41 2 = some (2, 1) := by kernel_rfl
theorem fd41_3 : fdT Try.prog 41 3 = some (3, 1) := by kernel_rfl
theorem fd70_0 : fdT Try.prog 70 0 = some (0, 1) := by kernel_rfl
theorem fd70_1 : fdT Try.prog 70 1 = some (1, 1) := by kernel_rfl
theorem fd70_2 : fdT Try.prog 70 2 = some (2, 1) := by kernel_rfl
theorem fd70_3 : fdT Try.prog 70 3 = some (3, 1) := by kernel_rfl
theorem fd70_4 : fdT Try.prog 70 4 = some (4, 1) := by kernel_rfl
theorem fd70_5 : fdT Try.prog 70 5 = some (5, 1) := by kernel_rfl
theorem fd75_0 : fdT Try.prog 75 0 = some (0, 1) := by kernel_rfl
theorem fd75_1 : fdT Try.prog 75 1 = some (1, 3) := by kernel_rfl
theorem fd75_2 : fdT Try.prog 75 2 = some (4, 1) := by kernel_rfl
theorem fd75_4 : fdT Try.prog 75 4 = some (8, 1) := by kernel_rfl
theorem fd86_0 : fdT Try.prog 86 0 = some (0, 1) := by kernel_rfl
theorem fd86_1 : fdT Try.prog 86 1 = some (1, 1) := by kernel_rfl
theorem fd86_2 : fdT Try.prog 86 2 = some (2, 1) := by kernel_rfl
theorem fd86_3 : fdT Try.prog 86 3 = some (3, 1) := by kernel_rfl
theorem it2 : itT Try.prog 2 = some .i64 := by kernel_rfl
theorem it3 : itT Try.prog 3 = some .i64 := by kernel_rfl
theorem it39 : itT Try.prog 39 = some .u64 := by kernel_rfl
theorem pl154 : plT Try.prog 154 = some [(0, 1), (1, 1), (2, 1)] := by kernel_rfl
theorem pl26 : plT Try.prog 26 = some [(0, 1)] := by kernel_rfl
theorem pl34 : plT Try.prog 34 = some [(0, 1), (1, 1), (2, 1)] := by kernel_rfl
theorem pl75 : plT Try.prog 75 = some [(0, 1), (1, 3), (4, 1), (5, 3), (8, 1)] := by kernel_rfl
theorem pl86 : plT Try.prog 86 = some [(0, 1), (1, 1), (2, 1), (3, 1)] := by kernel_rfl
theorem sc127 : scT Try.prog 127 = true := by kernel_rfl
theorem sc24 : scT Try.prog 24 = true := by kernel_rfl
theorem sc28 : scT Try.prog 28 = true := by kernel_rfl
theorem sc3 : scT Try.prog 3 = true := by kernel_rfl
theorem sc32 : scT Try.prog 32 = true := by kernel_rfl
theorem sc38 : scT Try.prog 38 = true := by kernel_rfl
theorem sc39 : scT Try.prog 39 = true := by kernel_rfl
theorem sc68 : scT Try.prog 68 = true := by kernel_rfl
theorem sl157 : slT Try.prog 157 = some (28, 1, 8) := by kernel_rfl
theorem sl22 : slT Try.prog 22 = some (41, 4, 32) := by kernel_rfl
theorem sl24 : slT Try.prog 24 = some (86, 4, 32) := by kernel_rfl
theorem sl32 : slT Try.prog 32 = some (38, 1, 8) := by kernel_rfl
theorem sl44 : slT Try.prog 44 = some (3, 1, 8) := by kernel_rfl
theorem sl68 : slT Try.prog 68 = some (39, 1, 8) := by kernel_rfl
theorem sl90 : slT Try.prog 90 = some (32, 1, 24) := by kernel_rfl
theorem sz154 : szT Try.prog 154 = some 3 := by kernel_rfl
theorem sz24 : szT Try.prog 24 = some 1 := by kernel_rfl
theorem sz26 : szT Try.prog 26 = some 1 := by kernel_rfl
theorem sz32 : szT Try.prog 32 = some 1 := by kernel_rfl
theorem sz34 : szT Try.prog 34 = some 3 := by kernel_rfl
theorem sz38 : szT Try.prog 38 = some 1 := by kernel_rfl
theorem sz75 : szT Try.prog 75 = some 9 := by kernel_rfl
theorem sz86 : szT Try.prog 86 = some 4 := by kernel_rfl
theorem zr154 : zrT Try.prog 154 = some [.int .u64 0, .int .i64 0, .int .i64 0] := by kernel_rfl
theorem zr159 : zrT Try.prog 159 = some [.int .u64 0, .int .i64 0, .int .i64 0, .int .u64 0, .int .i64 0, .int .i64 0] := by kernel_rfl
theorem zr26 : zrT Try.prog 26 = some [.slice none 0 0] := by kernel_rfl
theorem zr28 : zrT Try.prog 28 = some [.int .i64 0] := by kernel_rfl
theorem zr3 : zrT Try.prog 3 = some [.int .i64 0] := by kernel_rfl
theorem zr32 : zrT Try.prog 32 = some [.slice none 0 0] := by kernel_rfl
theorem zr34 : zrT Try.prog 34 = some [.int .i64 0, .int .i64 0, .slice none 0 0] := by kernel_rfl
theorem zr38 : zrT Try.prog 38 = some [.float .f64 0] := by kernel_rfl
theorem zr75 : zrT Try.prog 75 = some [.int .i64 0, .int .i64 0, .int .i64 0, .slice none 0 0, .slice none 0 0, .int .i64 0, .int .i64 0, .int .i64 0, .float .f64 0] := by kernel_rfl
theorem zr86 : zrT Try.prog 86 = some [.int .i64 0, .int .i64 0, .float .f64 0, .float .f64 0] := by kernel_rfl
end Go.Proofs.Ytcnffgbncbadbaa
