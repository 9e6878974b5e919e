/- Printed by a program of ours (walk.py): facts on the types. -/
import Derived.Test.YtllmlkffknodmaaGreatBKb
import Derived.Test.YtllmlkffknodmaaGreatProg
import Derived.KernelRfl
namespace Go.Proofs.YtllmlkffknodmaaGreat
open Go Go.Bn
theorem mixed : Tryz.prog.follows .mixedOrders = true := by kernel_rfl
theorem ag101 : agT Tryz.prog 101 = some 4 := by kernel_rfl
theorem ag112 : agT Tryz.prog 112 = some 3 := by kernel_rfl
theorem ag47 : agT Tryz.prog 47 = some 3 := by kernel_rfl
theorem ag67 : agT Tryz.prog 67 = some 3 := by kernel_rfl
theorem ag78 : agT Tryz.prog 78 = some 3 := by kernel_rfl
theorem ag99 : agT Tryz.prog 99 = some 4 := by kernel_rfl
theorem ar126 : arT Tryz.prog 126 = some (2, 112, 3) := by kernel_rfl
theorem fd101_0 : fdT Tryz.prog 101 0 = some (0, 1) := by kernel_rfl
theorem fd101_1 : fdT Tryz.prog 101 1 = some (1, 1) := by kernel_rfl
theorem fd101_2 : fdT Tryz.prog 101 2 = some (2, 1) := by kernel_rfl
theorem fd101_3 : fdT Tryz.prog 101 3 = some (3, 1) := by kernel_rfl
theorem fd112_0 : fdT Tryz.prog 112 0 = some (0, 1) := by kernel_rfl
theorem fd112_1 : fdT Tryz.prog 112 1 = some (1, 1) := by kernel_rfl
theorem fd120_0 : fdT Tryz.prog 120 0 = some (0, 1) := by kernel_rfl
theorem fd120_1 : fdT Tryz.prog 120 1 = some (1, 1) := by kernel_rfl
theorem fd47_0 : fdT Tryz.prog 47 0 = some (0, 1) := by kernel_rfl
theorem fd47_1 : fdT Tryz.prog 47 1 = some (1, 1) := by kernel_rfl
theorem fd47_2 : fdT Tryz.prog 47 2 = some (2, 1) := by kernel_rfl
theorem fd67_0 : fdT Tryz.prog 67 0 = some (0, 1) := by kernel_rfl
theorem fd67_1 : fdT Tryz.prog 67 1 = some (1, 1) := by kernel_rfl
theorem fd67_2 : fdT Tryz.prog 67 2 = some (2, 1) := by kernel_rfl
theorem fd78_0 : fdT Tryz.prog 78 0 = some (0, 1) := by kernel_rfl
theorem fd78_1 : fdT Tryz.prog 78 1 = some (1, 1) := by kernel_rfl
theorem fd78_2 : fdT Tryz.prog 78 2 = some (2, 1) := by kernel_rfl
theorem fd99_0 : fdT Tryz.prog 99 0 = some (0, 1) := by kernel_rfl
theorem fd99_1 : fdT Tryz.prog 99 1 = some (1, 1) := by kernel_rfl
theorem fd99_2 : fdT Tryz.prog 99 2 = some (2, 1) := by kernel_rfl
theorem fd99_3 : fdT Tryz.prog 99 3 = some (3, 1) := by kernel_rfl
theorem it110 : itT Tryz.prog 110 = some .u64 := by kernel_rfl
theorem it141 : itT Tryz.prog 141 = some .u32 := by kernel_rfl
theorem it2 : itT Tryz.prog 2 = some .i64 := by kernel_rfl
theorem it23 : itT Tryz.prog 23 = some .u64 := by kernel_rfl
theorem it3 : itT Tryz.prog 3 = some .i64 := by kernel_rfl
theorem it5 : itT Tryz.prog 5 = some .u8 := by kernel_rfl
theorem pl101 : plT Tryz.prog 101 = some [(0, 1), (1, 1), (2, 1), (3, 1)] := by kernel_rfl
theorem pl112 : plT Tryz.prog 112 = some [(0, 1), (1, 1), (2, 1)] := by kernel_rfl
theorem pl120 : plT Tryz.prog 120 = some [(0, 1), (1, 1)] := by kernel_rfl
theorem pl47 : plT Tryz.prog 47 = some [(0, 1), (1, 1), (2, 1)] := by kernel_rfl
theorem pl67 : plT Tryz.prog 67 = some [(0, 1), (1, 1), (2, 1)] := by kernel_rfl
theorem pl99 : plT Tryz.prog 99 = some [(0, 1), (1, 1), (2, 1), (3, 1)] := by kernel_rfl
theorem sc110 : scT Tryz.prog 110 = true := by kernel_rfl
theorem sc118 : scT Tryz.prog 118 = true := by kernel_rfl
theorem sc141 : scT Tryz.prog 141 = true := by kernel_rfl
theorem sc22 : scT Tryz.prog 22 = true := by kernel_rfl
theorem sc23 : scT Tryz.prog 23 = true := by kernel_rfl
theorem sc24 : scT Tryz.prog 24 = true := by kernel_rfl
theorem sc28 : scT Tryz.prog 28 = true := by kernel_rfl
theorem sc3 : scT Tryz.prog 3 = true := by kernel_rfl
theorem sc4 : scT Tryz.prog 4 = true := by kernel_rfl
theorem sc97 : scT Tryz.prog 97 = true := by kernel_rfl
theorem sl118 : slT Tryz.prog 118 = some (141, 1, 4) := by kernel_rfl
theorem sl22 : slT Tryz.prog 22 = some (23, 1, 8) := by kernel_rfl
theorem sl28 : slT Tryz.prog 28 = some (24, 1, 8) := by kernel_rfl
theorem sl45 : slT Tryz.prog 45 = some (78, 3, 40) := by kernel_rfl
theorem sl50 : slT Tryz.prog 50 = some (47, 3, 40) := by kernel_rfl
theorem sl73 : slT Tryz.prog 73 = some (28, 1, 24) := by kernel_rfl
theorem sz101 : szT Tryz.prog 101 = some 4 := by kernel_rfl
theorem sz112 : szT Tryz.prog 112 = some 3 := by kernel_rfl
theorem sz118 : szT Tryz.prog 118 = some 1 := by kernel_rfl
theorem sz141 : szT Tryz.prog 141 = some 1 := by kernel_rfl
theorem sz24 : szT Tryz.prog 24 = some 1 := by kernel_rfl
theorem sz28 : szT Tryz.prog 28 = some 1 := by kernel_rfl
theorem sz3 : szT Tryz.prog 3 = some 1 := by kernel_rfl
theorem sz4 : szT Tryz.prog 4 = some 1 := by kernel_rfl
theorem sz47 : szT Tryz.prog 47 = some 3 := by kernel_rfl
theorem sz67 : szT Tryz.prog 67 = some 3 := by kernel_rfl
theorem sz99 : szT Tryz.prog 99 = some 4 := by kernel_rfl
theorem zr101 : zrT Tryz.prog 101 = some [.int .i64 0, .int .i64 0, .int .i64 0, .int .i64 0] := by kernel_rfl
theorem zr112 : zrT Tryz.prog 112 = some [.int .u64 0, .int .i64 0, .int .i64 0] := by kernel_rfl
theorem zr120 : zrT Tryz.prog 120 = some [.bool false, .slice none 0 0] := by kernel_rfl
theorem zr126 : zrT Tryz.prog 126 = some [.int .u64 0, .int .i64 0, .int .i64 0, .int .u64 0, .int .i64 0, .int .i64 0] := by kernel_rfl
theorem zr141 : zrT Tryz.prog 141 = some [.int .u32 0] := by kernel_rfl
theorem zr24 : zrT Tryz.prog 24 = some [.float .f64 0] := by kernel_rfl
theorem zr28 : zrT Tryz.prog 28 = some [.slice none 0 0] := by kernel_rfl
theorem zr47 : zrT Tryz.prog 47 = some [.int .i64 0, .int .i64 0, .slice none 0 0] := by kernel_rfl
theorem zr67 : zrT Tryz.prog 67 = some [.slice none 0 0, .float .f64 0, .float .f64 0] := by kernel_rfl
theorem zr99 : zrT Tryz.prog 99 = some [.int .i64 0, .bool false, .pointer none, .int .i64 0] := by kernel_rfl
end Go.Proofs.YtllmlkffknodmaaGreat
