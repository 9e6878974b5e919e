/- Printed by a program of ours (walk.py): facts on the types. -/
import Derived.Test.YtllkellonjhalaaFqKb
import Derived.Test.YtllkellonjhalaaProg
import Derived.KernelRfl
namespace Go.Proofs.Ytllkellonjhalaa
open Go Go.Bn
theorem mixed : Try.prog.follows .mixedOrders = true := by kernel_rfl
theorem ag24 : agT Try.prog 24 = some 3 := by kernel_rfl
theorem ag29 : agT Try.prog 29 = some 3 := by kernel_rfl
theorem ag59 : agT Try.prog 59 = some 3 := by kernel_rfl
theorem ag88 : agT Try.prog 88 = some 3 := by kernel_rfl
theorem ar94 : arT Try.prog 94 = some (2, 88, 3) := by kernel_rfl
theorem fd24_0 : fdT Try.prog 24 0 = some (0, 1) := by kernel_rfl
theorem fd24_1 : fdT Try.prog 24 1 = some (1, 1) := by kernel_rfl
theorem fd24_2 : fdT Try.prog 24 2 = some (2, 1) := by kernel_rfl
theorem fd29_0 : fdT Try.prog 29 0 = some (0, 1) := by kernel_rfl
theorem fd29_1 : fdT Try.prog 29 1 = some (1, 1) := by kernel_rfl
theorem fd29_2 : fdT Try.prog 29 2 = some (2, 1) := by kernel_rfl
theorem fd59_0 : fdT Try.prog 59 0 = some (0, 1) := by kernel_rfl
theorem fd59_1 : fdT Try.prog 59 1 = some (1, 1) := by kernel_rfl
theorem fd59_2 : fdT Try.prog 59 2 = some (2, 1) := by kernel_rfl
theorem fd88_0 : fdT Try.prog 88 0 = some (0, 1) := by kernel_rfl
theorem fd88_1 : fdT Try.prog 88 1 = some (1, 1) := by kernel_rfl
theorem it2 : itT Try.prog 2 = some .i64 := by kernel_rfl
theorem it26 : itT Try.prog 26 = some .u64 := by kernel_rfl
theorem it3 : itT Try.prog 3 = some .i64 := by kernel_rfl
theorem pl29 : plT Try.prog 29 = some [(0, 1), (1, 1), (2, 1)] := by kernel_rfl
theorem pl59 : plT Try.prog 59 = some [(0, 1), (1, 1), (2, 1)] := by kernel_rfl
theorem pl88 : plT Try.prog 88 = some [(0, 1), (1, 1), (2, 1)] := by kernel_rfl
theorem sc22 : scT Try.prog 22 = true := by kernel_rfl
theorem sc26 : scT Try.prog 26 = true := by kernel_rfl
theorem sc27 : scT Try.prog 27 = true := by kernel_rfl
theorem sc3 : scT Try.prog 3 = true := by kernel_rfl
theorem sc35 : scT Try.prog 35 = true := by kernel_rfl
theorem sc86 : scT Try.prog 86 = true := by kernel_rfl
theorem sl22 : slT Try.prog 22 = some (26, 1, 8) := by kernel_rfl
theorem sl25 : slT Try.prog 25 = some (24, 3, 40) := by kernel_rfl
theorem sl27 : slT Try.prog 27 = some (35, 1, 8) := by kernel_rfl
theorem sl32 : slT Try.prog 32 = some (29, 3, 40) := by kernel_rfl
theorem sl65 : slT Try.prog 65 = some (27, 1, 24) := by kernel_rfl
theorem sl70 : slT Try.prog 70 = some (59, 3, 40) := by kernel_rfl
theorem sz27 : szT Try.prog 27 = some 1 := by kernel_rfl
theorem sz29 : szT Try.prog 29 = some 3 := by kernel_rfl
theorem sz35 : szT Try.prog 35 = some 1 := by kernel_rfl
theorem sz59 : szT Try.prog 59 = some 3 := by kernel_rfl
theorem sz88 : szT Try.prog 88 = some 3 := by kernel_rfl
theorem zr27 : zrT Try.prog 27 = some [.slice none 0 0] := by kernel_rfl
theorem zr29 : zrT Try.prog 29 = some [.int .i64 0, .int .i64 0, .slice none 0 0] := by kernel_rfl
theorem zr35 : zrT Try.prog 35 = some [.float .f64 0] := by kernel_rfl
theorem zr59 : zrT Try.prog 59 = some [.slice none 0 0, .float .f64 0, .float .f64 0] := by kernel_rfl
theorem zr88 : zrT Try.prog 88 = some [.int .u64 0, .int .i64 0, .int .i64 0] := by kernel_rfl
theorem zr94 : zrT Try.prog 94 = some [.int .u64 0, .int .i64 0, .int .i64 0, .int .u64 0, .int .i64 0, .int .i64 0] := by kernel_rfl
end Go.Proofs.Ytllkellonjhalaa
