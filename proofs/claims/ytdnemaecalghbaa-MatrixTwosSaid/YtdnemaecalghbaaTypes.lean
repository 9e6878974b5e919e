/- Printed by a program of ours (walk.py): facts on the types. -/
import Derived.Test.YtdnemaecalghbaaTyp
import Derived.Test.YtdnemaecalghbaaProg
import Derived.KernelRfl
namespace Go.Proofs.Ytdnemaecalghbaa
open Go Go.Bn
theorem mixed : Try.prog.follows .mixedOrders = true := by kernel_rfl
theorem ag146 : agT Try.prog 146 = some 3 := by kernel_rfl
theorem ag24 : agT Try.prog 24 = some 3 := by kernel_rfl
theorem ag28 : agT Try.prog 28 = some 3 := by kernel_rfl
theorem ar136 : arT Try.prog 136 = some (12, 3, 1) := by kernel_rfl
theorem ar170 : arT Try.prog 170 = some (2, 146, 3) := by kernel_rfl
theorem fd146_0 : fdT Try.prog 146 0 = some (0, 1) := by kernel_rfl
theorem fd146_1 : fdT Try.prog 146 1 = some (1, 1) := by kernel_rfl
theorem fd24_0 : fdT Try.prog 24 0 = some (0, 1) := by kernel_rfl
theorem fd24_1 : fdT Try.prog 24 1 = some (1, 1) := by kernel_rfl
theorem fd24_2 : fdT Try.prog 24 2 = some (2, 1) := by kernel_rfl
theorem fd28_0 : fdT Try.prog 28 0 = some (0, 1) := by kernel_rfl
theorem fd28_1 : fdT Try.prog 28 1 = some (1, 1) := by kernel_rfl
theorem fd28_2 : fdT Try.prog 28 2 = some (2, 1) := by kernel_rfl
theorem it3 : itT Try.prog 3 = some .i64 := by kernel_rfl
theorem it55 : itT Try.prog 55 = some .u64 := by kernel_rfl
theorem pl146 : plT Try.prog 146 = some [(0, 1), (1, 1), (2, 1)] := by kernel_rfl
theorem pl28 : plT Try.prog 28 = some [(0, 1), (1, 1), (2, 1)] := by kernel_rfl
theorem sc144 : scT Try.prog 144 = true := by kernel_rfl
theorem sc22 : scT Try.prog 22 = true := by kernel_rfl
theorem sc26 : scT Try.prog 26 = true := by kernel_rfl
theorem sc3 : scT Try.prog 3 = true := by kernel_rfl
theorem sc30 : scT Try.prog 30 = true := by kernel_rfl
theorem sc55 : scT Try.prog 55 = true := by kernel_rfl
theorem sc56 : scT Try.prog 56 = true := by kernel_rfl
theorem sc78 : scT Try.prog 78 = true := by kernel_rfl
theorem sc88 : scT Try.prog 88 = true := by kernel_rfl
theorem sl142 : slT Try.prog 142 = some (30, 1, 8) := by kernel_rfl
theorem sl22 : slT Try.prog 22 = some (55, 1, 8) := by kernel_rfl
theorem sl26 : slT Try.prog 26 = some (56, 1, 8) := by kernel_rfl
theorem sl77 : slT Try.prog 77 = some (22, 1, 24) := by kernel_rfl
theorem sl78 : slT Try.prog 78 = some (26, 1, 24) := by kernel_rfl
theorem sl88 : slT Try.prog 88 = some (3, 1, 8) := by kernel_rfl
theorem sz146 : szT Try.prog 146 = some 3 := by kernel_rfl
theorem sz26 : szT Try.prog 26 = some 1 := by kernel_rfl
theorem sz28 : szT Try.prog 28 = some 3 := by kernel_rfl
theorem sz3 : szT Try.prog 3 = some 1 := by kernel_rfl
theorem sz56 : szT Try.prog 56 = some 1 := by kernel_rfl
theorem sz78 : szT Try.prog 78 = some 1 := by kernel_rfl
theorem zr136 : zrT Try.prog 136 = some [.int .i64 0, .int .i64 0, .int .i64 0, .int .i64 0, .int .i64 0, .int .i64 0, .int .i64 0, .int .i64 0, .int .i64 0, .int .i64 0, .int .i64 0, .int .i64 0] := by kernel_rfl
theorem zr146 : zrT Try.prog 146 = some [.int .u64 0, .int .i64 0, .int .i64 0] := by kernel_rfl
theorem zr170 : zrT Try.prog 170 = some [.int .u64 0, .int .i64 0, .int .i64 0, .int .u64 0, .int .i64 0, .int .i64 0] := by kernel_rfl
theorem zr26 : zrT Try.prog 26 = some [.slice none 0 0] := by kernel_rfl
theorem zr28 : zrT Try.prog 28 = some [.int .i64 0, .int .i64 0, .slice none 0 0] := by kernel_rfl
theorem zr3 : zrT Try.prog 3 = some [.int .i64 0] := by kernel_rfl
theorem zr30 : zrT Try.prog 30 = some [.int .i64 0] := by kernel_rfl
theorem zr56 : zrT Try.prog 56 = some [.float .f64 0] := by kernel_rfl
theorem zr78 : zrT Try.prog 78 = some [.slice none 0 0] := by kernel_rfl
end Go.Proofs.Ytdnemaecalghbaa
