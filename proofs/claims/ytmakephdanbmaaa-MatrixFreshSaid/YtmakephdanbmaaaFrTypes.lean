/- Printed by a program of ours (walk.py): facts on the types. -/
import Derived.Test.YtmakephdanbmaaaFrKb
import Derived.Test.YtmakephdanbmaaaProg
import Derived.KernelRfl
namespace Go.Proofs.Ytmakephdanbmaaa
open Go Go.Bn
theorem mixed : Try.prog.follows .mixedOrders = true := by kernel_rfl
theorem ag113 : agT Try.prog 113 = some 3 := by kernel_rfl
theorem ag24 : agT Try.prog 24 = some 3 := by kernel_rfl
theorem ag28 : agT Try.prog 28 = some 3 := by kernel_rfl
theorem ar107 : arT Try.prog 107 = some (12, 3, 1) := by kernel_rfl
theorem ar129 : arT Try.prog 129 = some (2, 113, 3) := by kernel_rfl
theorem fd113_0 : fdT Try.prog 113 0 = some (0, 1) := by kernel_rfl
theorem fd113_1 : fdT Try.prog 113 1 = some (1, 1) := by kernel_rfl
theorem fd24_0 : fdT Try.prog 24 0 = some (0, 1) := by kernel_rfl
theorem fd24_1 : fdT Try.prog 24 1 = some (1, 1) := by kernel_rfl
theorem fd24_2 : fdT Try.prog 24 2 = some (2, 1) := by kernel_rfl
theorem fd28_0 : fdT Try.prog 28 0 = some (0, 1) := by kernel_rfl
theorem fd28_1 : fdT Try.prog 28 1 = some (1, 1) := by kernel_rfl
theorem fd28_2 : fdT Try.prog 28 2 = some (2, 1) := by kernel_rfl
theorem it3 : itT Try.prog 3 = some .i64 := by kernel_rfl
theorem it90 : itT Try.prog 90 = some .u64 := by kernel_rfl
theorem pl113 : plT Try.prog 113 = some [(0, 1), (1, 1), (2, 1)] := by kernel_rfl
theorem pl28 : plT Try.prog 28 = some [(0, 1), (1, 1), (2, 1)] := by kernel_rfl
theorem sc111 : scT Try.prog 111 = true := by kernel_rfl
theorem sc22 : scT Try.prog 22 = true := by kernel_rfl
theorem sc26 : scT Try.prog 26 = true := by kernel_rfl
theorem sc3 : scT Try.prog 3 = true := by kernel_rfl
theorem sc30 : scT Try.prog 30 = true := by kernel_rfl
theorem sc37 : scT Try.prog 37 = true := by kernel_rfl
theorem sc46 : scT Try.prog 46 = true := by kernel_rfl
theorem sc50 : scT Try.prog 50 = true := by kernel_rfl
theorem sc90 : scT Try.prog 90 = true := by kernel_rfl
theorem sl22 : slT Try.prog 22 = some (90, 1, 8) := by kernel_rfl
theorem sl26 : slT Try.prog 26 = some (37, 1, 8) := by kernel_rfl
theorem sl46 : slT Try.prog 46 = some (3, 1, 8) := by kernel_rfl
theorem sl47 : slT Try.prog 47 = some (28, 3, 40) := by kernel_rfl
theorem sl50 : slT Try.prog 50 = some (26, 1, 24) := by kernel_rfl
theorem sl86 : slT Try.prog 86 = some (30, 1, 8) := by kernel_rfl
theorem sz113 : szT Try.prog 113 = some 3 := by kernel_rfl
theorem sz26 : szT Try.prog 26 = some 1 := by kernel_rfl
theorem sz28 : szT Try.prog 28 = some 3 := by kernel_rfl
theorem sz3 : szT Try.prog 3 = some 1 := by kernel_rfl
theorem sz37 : szT Try.prog 37 = some 1 := by kernel_rfl
theorem sz50 : szT Try.prog 50 = some 1 := by kernel_rfl
theorem zr107 : zrT Try.prog 107 = some [.int .i64 0, .int .i64 0, .int .i64 0, .int .i64 0, .int .i64 0, .int .i64 0, .int .i64 0, .int .i64 0, .int .i64 0, .int .i64 0, .int .i64 0, .int .i64 0] := by kernel_rfl
theorem zr113 : zrT Try.prog 113 = some [.int .u64 0, .int .i64 0, .int .i64 0] := by kernel_rfl
theorem zr129 : zrT Try.prog 129 = some [.int .u64 0, .int .i64 0, .int .i64 0, .int .u64 0, .int .i64 0, .int .i64 0] := by kernel_rfl
theorem zr26 : zrT Try.prog 26 = some [.slice none 0 0] := by kernel_rfl
theorem zr28 : zrT Try.prog 28 = some [.int .i64 0, .int .i64 0, .slice none 0 0] := by kernel_rfl
theorem zr3 : zrT Try.prog 3 = some [.int .i64 0] := by kernel_rfl
theorem zr30 : zrT Try.prog 30 = some [.int .i64 0] := by kernel_rfl
theorem zr37 : zrT Try.prog 37 = some [.float .f64 0] := by kernel_rfl
theorem zr50 : zrT Try.prog 50 = some [.slice none 0 0] := by kernel_rfl
end Go.Proofs.Ytmakephdanbmaaa
