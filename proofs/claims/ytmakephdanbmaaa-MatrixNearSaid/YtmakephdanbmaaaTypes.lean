/- Printed by a program of ours (walk.py): facts on the types. -/
import Derived.Test.YtmakephdanbmaaaKb
import Derived.Test.YtmakephdanbmaaaProg
import Derived.KernelRfl
namespace Go.Proofs.Ytmakephdanbmaaa
open Go Go.Bn
theorem mixed : Try.prog.follows .mixedOrders = true := by kernel_rfl
theorem ag113 : agT Try.prog 113 = some 3 := by kernel_rfl
theorem ag24 : agT Try.prog 24 = some 3 := by kernel_rfl
theorem ag28 : agT Try.prog 28 = some 3 := by kernel_rfl
theorem ag65 : agT Try.prog 65 = some 2 := by kernel_rfl
theorem ag92 : agT Try.prog 92 = some 3 := by kernel_rfl
theorem ar129 : arT Try.prog 129 = some (2, 113, 3) := by kernel_rfl
theorem fd113_0 : fdT Try.prog 113 0 = some (0, 1) := by kernel_rfl
theorem fd113_1 : fdT Try.prog 113 1 = some (1, 1) := by kernel_rfl
theorem fd24_0 : fdT Try.prog 24 0 = some (0, 1) := by kernel_rfl
theorem fd24_1 : fdT Try.prog 24 1 = some (1, 1) := by kernel_rfl
theorem fd24_2 : fdT Try.prog 24 2 = some (2, 1) := by kernel_rfl
theorem fd28_0 : fdT Try.prog 28 0 = some (0, 1) := by kernel_rfl
theorem fd28_1 : fdT Try.prog 28 1 = some (1, 1) := by kernel_rfl
theorem fd28_2 : fdT Try.prog 28 2 = some (2, 1) := by kernel_rfl
theorem fd65_0 : fdT Try.prog 65 0 = some (0, 1) := by kernel_rfl
theorem fd65_1 : fdT Try.prog 65 1 = some (1, 1) := by kernel_rfl
theorem fd92_0 : fdT Try.prog 92 0 = some (0, 1) := by kernel_rfl
theorem fd92_1 : fdT Try.prog 92 1 = some (1, 1) := by kernel_rfl
theorem fd92_2 : fdT Try.prog 92 2 = some (2, 1) := by kernel_rfl
theorem fd97_0 : fdT Try.prog 97 0 = some (0, 1) := by kernel_rfl
theorem fd97_1 : fdT Try.prog 97 1 = some (1, 1) := by kernel_rfl
theorem ft65_0 : fieldT Try.prog 65 0 = some 63 := by kernel_rfl
theorem it111 : itT Try.prog 111 = some .u64 := by kernel_rfl
theorem it132 : itT Try.prog 132 = some .u32 := by kernel_rfl
theorem it2 : itT Try.prog 2 = some .i64 := by kernel_rfl
theorem it3 : itT Try.prog 3 = some .i64 := by kernel_rfl
theorem it90 : itT Try.prog 90 = some .u64 := by kernel_rfl
theorem pl113 : plT Try.prog 113 = some [(0, 1), (1, 1), (2, 1)] := by kernel_rfl
theorem pl28 : plT Try.prog 28 = some [(0, 1), (1, 1), (2, 1)] := by kernel_rfl
theorem pl65 : plT Try.prog 65 = some [(0, 1), (1, 1)] := by kernel_rfl
theorem pl92 : plT Try.prog 92 = some [(0, 1), (1, 1), (2, 1)] := by kernel_rfl
theorem pl97 : plT Try.prog 97 = some [(0, 1), (1, 1)] := by kernel_rfl
theorem sc111 : scT Try.prog 111 = true := by kernel_rfl
theorem sc132 : scT Try.prog 132 = true := by kernel_rfl
theorem sc22 : scT Try.prog 22 = true := by kernel_rfl
theorem sc26 : scT Try.prog 26 = true := by kernel_rfl
theorem sc3 : scT Try.prog 3 = true := by kernel_rfl
theorem sc30 : scT Try.prog 30 = true := by kernel_rfl
theorem sc37 : scT Try.prog 37 = true := by kernel_rfl
theorem sc4 : scT Try.prog 4 = true := by kernel_rfl
theorem sc50 : scT Try.prog 50 = true := by kernel_rfl
theorem sc63 : scT Try.prog 63 = true := by kernel_rfl
theorem sc90 : scT Try.prog 90 = true := by kernel_rfl
theorem sc95 : scT Try.prog 95 = true := by kernel_rfl
theorem sl22 : slT Try.prog 22 = some (90, 1, 8) := by kernel_rfl
theorem sl26 : slT Try.prog 26 = some (37, 1, 8) := by kernel_rfl
theorem sl46 : slT Try.prog 46 = some (3, 1, 8) := by kernel_rfl
theorem sl50 : slT Try.prog 50 = some (26, 1, 24) := by kernel_rfl
theorem sl86 : slT Try.prog 86 = some (30, 1, 8) := by kernel_rfl
theorem sl95 : slT Try.prog 95 = some (132, 1, 4) := by kernel_rfl
theorem sz113 : szT Try.prog 113 = some 3 := by kernel_rfl
theorem sz132 : szT Try.prog 132 = some 1 := by kernel_rfl
theorem sz26 : szT Try.prog 26 = some 1 := by kernel_rfl
theorem sz28 : szT Try.prog 28 = some 3 := by kernel_rfl
theorem sz37 : szT Try.prog 37 = some 1 := by kernel_rfl
theorem sz4 : szT Try.prog 4 = some 1 := by kernel_rfl
theorem sz50 : szT Try.prog 50 = some 1 := by kernel_rfl
theorem sz65 : szT Try.prog 65 = some 2 := by kernel_rfl
theorem sz92 : szT Try.prog 92 = some 3 := by kernel_rfl
theorem sz95 : szT Try.prog 95 = some 1 := by kernel_rfl
theorem zr113 : zrT Try.prog 113 = some [.int .u64 0, .int .i64 0, .int .i64 0] := by kernel_rfl
theorem zr129 : zrT Try.prog 129 = some [.int .u64 0, .int .i64 0, .int .i64 0, .int .u64 0, .int .i64 0, .int .i64 0] := by kernel_rfl
theorem zr132 : zrT Try.prog 132 = some [.int .u32 0] := by kernel_rfl
theorem zr26 : zrT Try.prog 26 = some [.slice none 0 0] := by kernel_rfl
theorem zr28 : zrT Try.prog 28 = some [.int .i64 0, .int .i64 0, .slice none 0 0] := by kernel_rfl
theorem zr3 : zrT Try.prog 3 = some [.int .i64 0] := by kernel_rfl
theorem zr30 : zrT Try.prog 30 = some [.int .i64 0] := by kernel_rfl
theorem zr37 : zrT Try.prog 37 = some [.float .f64 0] := by kernel_rfl
theorem zr50 : zrT Try.prog 50 = some [.slice none 0 0] := by kernel_rfl
theorem zr65 : zrT Try.prog 65 = some [.pointer none, .int .i64 0] := by kernel_rfl
theorem zr92 : zrT Try.prog 92 = some [.bool false, .int .u64 0, .int .i64 0] := by kernel_rfl
theorem zr97 : zrT Try.prog 97 = some [.bool false, .slice none 0 0] := by kernel_rfl
end Go.Proofs.Ytmakephdanbmaaa
