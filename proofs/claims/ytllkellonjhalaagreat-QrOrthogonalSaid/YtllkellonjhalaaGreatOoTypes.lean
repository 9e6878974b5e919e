/- Printed by a program of ours (walk.py): facts on the types. -/
import Derived.Test.YtllkellonjhalaaGreatOoKb
import Derived.Test.YtllkellonjhalaaGreatProg
import Derived.KernelRfl
namespace Go.Proofs.YtllkellonjhalaaGreat
open Go Go.Bn
theorem mixed : Tryz.prog.follows .mixedOrders = true := by kernel_rfl
theorem ag107 : agT Tryz.prog 107 = some 3 := by kernel_rfl
theorem ag146 : agT Tryz.prog 146 = some 3 := by kernel_rfl
theorem ag159 : agT Tryz.prog 159 = some 4 := by kernel_rfl
theorem ag161 : agT Tryz.prog 161 = some 4 := by kernel_rfl
theorem ag28 : agT Tryz.prog 28 = some 3 := by kernel_rfl
theorem ag41 : agT Tryz.prog 41 = some 2 := by kernel_rfl
theorem ag50 : agT Tryz.prog 50 = some 3 := by kernel_rfl
theorem ag79 : agT Tryz.prog 79 = some 3 := by kernel_rfl
theorem ar157 : arT Tryz.prog 157 = some (2, 146, 3) := by kernel_rfl
theorem fd107_0 : fdT Tryz.prog 107 0 = some (0, 1) := by kernel_rfl
theorem fd107_1 : fdT Tryz.prog 107 1 = some (1, 1) := by kernel_rfl
theorem fd107_2 : fdT Tryz.prog 107 2 = some (2, 1) := by kernel_rfl
theorem fd146_0 : fdT Tryz.prog 146 0 = some (0, 1) := by kernel_rfl
theorem fd146_1 : fdT Tryz.prog 146 1 = some (1, 1) := by kernel_rfl
theorem fd159_0 : fdT Tryz.prog 159 0 = some (0, 1) := by kernel_rfl
theorem fd159_1 : fdT Tryz.prog 159 1 = some (1, 1) := by kernel_rfl
theorem fd159_2 : fdT Tryz.prog 159 2 = some (2, 1) := by kernel_rfl
theorem fd159_3 : fdT Tryz.prog 159 3 = some (3, 1) := by kernel_rfl
theorem fd161_0 : fdT Tryz.prog 161 0 = some (0, 1) := by kernel_rfl
theorem fd161_1 : fdT Tryz.prog 161 1 = some (1, 1) := by kernel_rfl
theorem fd161_2 : fdT Tryz.prog 161 2 = some (2, 1) := by kernel_rfl
theorem fd161_3 : fdT Tryz.prog 161 3 = some (3, 1) := by kernel_rfl
theorem fd28_0 : fdT Tryz.prog 28 0 = some (0, 1) := by kernel_rfl
theorem fd28_1 : fdT Tryz.prog 28 1 = some (1, 1) := by kernel_rfl
theorem fd28_2 : fdT Tryz.prog 28 2 = some (2, 1) := by kernel_rfl
theorem fd41_0 : fdT Tryz.prog 41 0 = some (0, 1) := by kernel_rfl
theorem fd41_1 : fdT Tryz.prog 41 1 = some (1, 1) := by kernel_rfl
theorem fd50_0 : fdT Tryz.prog 50 0 = some (0, 1) := by kernel_rfl
theorem fd50_1 : fdT Tryz.prog 50 1 = some (1, 1) := by kernel_rfl
theorem fd50_2 : fdT Tryz.prog 50 2 = some (2, 1) := by kernel_rfl
theorem fd79_0 : fdT Tryz.prog 79 0 = some (0, 1) := by kernel_rfl
theorem fd79_1 : fdT Tryz.prog 79 1 = some (1, 1) := by kernel_rfl
theorem fd79_2 : fdT Tryz.prog 79 2 = some (2, 1) := by kernel_rfl
theorem fd96_0 : fdT Tryz.prog 96 0 = some (0, 1) := by kernel_rfl
theorem fd96_1 : fdT Tryz.prog 96 1 = some (1, 1) := by kernel_rfl
theorem ft41_0 : fieldT Tryz.prog 41 0 = some 39 := by kernel_rfl
theorem it131 : itT Tryz.prog 131 = some .u64 := by kernel_rfl
theorem it153 : itT Tryz.prog 153 = some .u32 := by kernel_rfl
theorem it2 : itT Tryz.prog 2 = some .i64 := by kernel_rfl
theorem it3 : itT Tryz.prog 3 = some .i64 := by kernel_rfl
theorem it34 : itT Tryz.prog 34 = some .u64 := by kernel_rfl
theorem it5 : itT Tryz.prog 5 = some .u8 := by kernel_rfl
theorem pl107 : plT Tryz.prog 107 = some [(0, 1), (1, 1), (2, 1)] := by kernel_rfl
theorem pl146 : plT Tryz.prog 146 = some [(0, 1), (1, 1), (2, 1)] := by kernel_rfl
theorem pl159 : plT Tryz.prog 159 = some [(0, 1), (1, 1), (2, 1), (3, 1)] := by kernel_rfl
theorem pl161 : plT Tryz.prog 161 = some [(0, 1), (1, 1), (2, 1), (3, 1)] := by kernel_rfl
theorem pl28 : plT Tryz.prog 28 = some [(0, 1), (1, 1), (2, 1)] := by kernel_rfl
theorem pl41 : plT Tryz.prog 41 = some [(0, 1), (1, 1)] := by kernel_rfl
theorem pl79 : plT Tryz.prog 79 = some [(0, 1), (1, 1), (2, 1)] := by kernel_rfl
theorem pl96 : plT Tryz.prog 96 = some [(0, 1), (1, 1)] := by kernel_rfl
theorem sc131 : scT Tryz.prog 131 = true := by kernel_rfl
theorem sc153 : scT Tryz.prog 153 = true := by kernel_rfl
theorem sc26 : scT Tryz.prog 26 = true := by kernel_rfl
theorem sc3 : scT Tryz.prog 3 = true := by kernel_rfl
theorem sc34 : scT Tryz.prog 34 = true := by kernel_rfl
theorem sc36 : scT Tryz.prog 36 = true := by kernel_rfl
theorem sc39 : scT Tryz.prog 39 = true := by kernel_rfl
theorem sc4 : scT Tryz.prog 4 = true := by kernel_rfl
theorem sc48 : scT Tryz.prog 48 = true := by kernel_rfl
theorem sc94 : scT Tryz.prog 94 = true := by kernel_rfl
theorem sl100 : slT Tryz.prog 100 = some (79, 3, 40) := by kernel_rfl
theorem sl24 : slT Tryz.prog 24 = some (28, 3, 40) := by kernel_rfl
theorem sl26 : slT Tryz.prog 26 = some (36, 1, 8) := by kernel_rfl
theorem sl48 : slT Tryz.prog 48 = some (34, 1, 8) := by kernel_rfl
theorem sl76 : slT Tryz.prog 76 = some (26, 1, 24) := by kernel_rfl
theorem sl94 : slT Tryz.prog 94 = some (153, 1, 4) := by kernel_rfl
theorem sz107 : szT Tryz.prog 107 = some 3 := by kernel_rfl
theorem sz146 : szT Tryz.prog 146 = some 3 := by kernel_rfl
theorem sz153 : szT Tryz.prog 153 = some 1 := by kernel_rfl
theorem sz159 : szT Tryz.prog 159 = some 4 := by kernel_rfl
theorem sz161 : szT Tryz.prog 161 = some 4 := by kernel_rfl
theorem sz26 : szT Tryz.prog 26 = some 1 := by kernel_rfl
theorem sz28 : szT Tryz.prog 28 = some 3 := by kernel_rfl
theorem sz3 : szT Tryz.prog 3 = some 1 := by kernel_rfl
theorem sz36 : szT Tryz.prog 36 = some 1 := by kernel_rfl
theorem sz4 : szT Tryz.prog 4 = some 1 := by kernel_rfl
theorem sz41 : szT Tryz.prog 41 = some 2 := by kernel_rfl
theorem sz79 : szT Tryz.prog 79 = some 3 := by kernel_rfl
theorem sz94 : szT Tryz.prog 94 = some 1 := by kernel_rfl
theorem zr107 : zrT Tryz.prog 107 = some [.bool false, .int .u64 0, .int .i64 0] := by kernel_rfl
theorem zr146 : zrT Tryz.prog 146 = some [.int .u64 0, .int .i64 0, .int .i64 0] := by kernel_rfl
theorem zr153 : zrT Tryz.prog 153 = some [.int .u32 0] := by kernel_rfl
theorem zr157 : zrT Tryz.prog 157 = some [.int .u64 0, .int .i64 0, .int .i64 0, .int .u64 0, .int .i64 0, .int .i64 0] := by kernel_rfl
theorem zr159 : zrT Tryz.prog 159 = some [.int .i64 0, .bool false, .pointer none, .int .i64 0] := by kernel_rfl
theorem zr161 : zrT Tryz.prog 161 = some [.int .i64 0, .int .i64 0, .int .i64 0, .int .i64 0] := by kernel_rfl
theorem zr26 : zrT Tryz.prog 26 = some [.slice none 0 0] := by kernel_rfl
theorem zr28 : zrT Tryz.prog 28 = some [.int .i64 0, .int .i64 0, .slice none 0 0] := by kernel_rfl
theorem zr36 : zrT Tryz.prog 36 = some [.float .f64 0] := by kernel_rfl
theorem zr41 : zrT Tryz.prog 41 = some [.pointer none, .int .i64 0] := by kernel_rfl
theorem zr79 : zrT Tryz.prog 79 = some [.slice none 0 0, .float .f64 0, .float .f64 0] := by kernel_rfl
theorem zr96 : zrT Tryz.prog 96 = some [.bool false, .slice none 0 0] := by kernel_rfl
end Go.Proofs.YtllkellonjhalaaGreat
