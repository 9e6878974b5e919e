/- Printed by a program of ours (walk.py): facts on the types. -/
import Derived.Test.YtcpififnffmjfaaGreatDoorZsKb
import Derived.Test.YtcpififnffmjfaaGreatDoorProg
import Derived.KernelRfl
namespace Go.Proofs.YtcpififnffmjfaaGreatDoor
open Go Go.Bn
theorem mixed : Tryz.prog.follows .mixedOrders = true := by kernel_rfl
theorem ag106 : agT Tryz.prog 106 = some 3 := by kernel_rfl
theorem ag31 : agT Tryz.prog 31 = some 3 := by kernel_rfl
theorem ag57 : agT Tryz.prog 57 = some 2 := by kernel_rfl
theorem ag76 : agT Tryz.prog 76 = some 3 := by kernel_rfl
theorem ar131 : arT Tryz.prog 131 = some (2, 106, 3) := by kernel_rfl
theorem ar137 : arT Tryz.prog 137 = some (64, 5, 1) := by kernel_rfl
theorem fd106_0 : fdT Tryz.prog 106 0 = some (0, 1) := by kernel_rfl
theorem fd106_1 : fdT Tryz.prog 106 1 = some (1, 1) := by kernel_rfl
theorem fd106_2 : fdT Tryz.prog 106 2 = some (2, 1) := by kernel_rfl
theorem fd31_0 : fdT Tryz.prog 31 0 = some (0, 1) := by kernel_rfl
theorem fd31_1 : fdT Tryz.prog 31 1 = some (1, 1) := by kernel_rfl
theorem fd31_2 : fdT Tryz.prog 31 2 = some (2, 1) := by kernel_rfl
theorem fd55_0 : fdT Tryz.prog 55 0 = some (0, 1) := by kernel_rfl
theorem fd55_1 : fdT Tryz.prog 55 1 = some (1, 1) := by kernel_rfl
theorem fd57_0 : fdT Tryz.prog 57 0 = some (0, 1) := by kernel_rfl
theorem fd57_1 : fdT Tryz.prog 57 1 = some (1, 1) := by kernel_rfl
theorem fd76_0 : fdT Tryz.prog 76 0 = some (0, 1) := by kernel_rfl
theorem fd76_1 : fdT Tryz.prog 76 1 = some (1, 1) := by kernel_rfl
theorem fd76_2 : fdT Tryz.prog 76 2 = some (2, 1) := by kernel_rfl
theorem fd81_0 : fdT Tryz.prog 81 0 = some (0, 1) := by kernel_rfl
theorem fd81_1 : fdT Tryz.prog 81 1 = some (1, 1) := by kernel_rfl
theorem it2 : itT Tryz.prog 2 = some .i64 := by kernel_rfl
theorem it3 : itT Tryz.prog 3 = some .i64 := by kernel_rfl
theorem it38 : itT Tryz.prog 38 = some .u64 := by kernel_rfl
theorem it5 : itT Tryz.prog 5 = some .u8 := by kernel_rfl
theorem it78 : itT Tryz.prog 78 = some .u32 := by kernel_rfl
theorem it98 : itT Tryz.prog 98 = some .u64 := by kernel_rfl
theorem pl106 : plT Tryz.prog 106 = some [(0, 1), (1, 1), (2, 1)] := by kernel_rfl
theorem pl31 : plT Tryz.prog 31 = some [(0, 1), (1, 1), (2, 1)] := by kernel_rfl
theorem pl57 : plT Tryz.prog 57 = some [(0, 1), (1, 1)] := by kernel_rfl
theorem pl76 : plT Tryz.prog 76 = some [(0, 1), (1, 1), (2, 1)] := by kernel_rfl
theorem pl81 : plT Tryz.prog 81 = some [(0, 1), (1, 1)] := by kernel_rfl
theorem sc24 : scT Tryz.prog 24 = true := by kernel_rfl
theorem sc28 : scT Tryz.prog 28 = true := by kernel_rfl
theorem sc29 : scT Tryz.prog 29 = true := by kernel_rfl
theorem sc3 : scT Tryz.prog 3 = true := by kernel_rfl
theorem sc38 : scT Tryz.prog 38 = true := by kernel_rfl
theorem sc4 : scT Tryz.prog 4 = true := by kernel_rfl
theorem sc5 : scT Tryz.prog 5 = true := by kernel_rfl
theorem sc52 : scT Tryz.prog 52 = true := by kernel_rfl
theorem sc53 : scT Tryz.prog 53 = true := by kernel_rfl
theorem sc78 : scT Tryz.prog 78 = true := by kernel_rfl
theorem sc98 : scT Tryz.prog 98 = true := by kernel_rfl
theorem sl22 : slT Tryz.prog 22 = some (38, 1, 8) := by kernel_rfl
theorem sl23 : slT Tryz.prog 23 = some (3, 1, 8) := by kernel_rfl
theorem sl24 : slT Tryz.prog 24 = some (28, 1, 8) := by kernel_rfl
theorem sl29 : slT Tryz.prog 29 = some (78, 1, 4) := by kernel_rfl
theorem sl53 : slT Tryz.prog 53 = some (38, 1, 8) := by kernel_rfl
theorem sz106 : szT Tryz.prog 106 = some 3 := by kernel_rfl
theorem sz24 : szT Tryz.prog 24 = some 1 := by kernel_rfl
theorem sz29 : szT Tryz.prog 29 = some 1 := by kernel_rfl
theorem sz3 : szT Tryz.prog 3 = some 1 := by kernel_rfl
theorem sz31 : szT Tryz.prog 31 = some 3 := by kernel_rfl
theorem sz38 : szT Tryz.prog 38 = some 1 := by kernel_rfl
theorem sz4 : szT Tryz.prog 4 = some 1 := by kernel_rfl
theorem sz53 : szT Tryz.prog 53 = some 1 := by kernel_rfl
theorem sz57 : szT Tryz.prog 57 = some 2 := by kernel_rfl
theorem sz76 : szT Tryz.prog 76 = some 3 := by kernel_rfl
theorem zr106 : zrT Tryz.prog 106 = some [.int .u64 0, .int .i64 0, .int .i64 0] := by kernel_rfl
theorem zr131 : zrT Tryz.prog 131 = some [.int .u64 0, .int .i64 0, .int .i64 0, .int .u64 0, .int .i64 0, .int .i64 0] := by kernel_rfl
theorem zr28 : zrT Tryz.prog 28 = some [.float .f64 0] := by kernel_rfl
theorem zr31 : zrT Tryz.prog 31 = some [.bool false, .slice none 0 0, .int .i64 0] := by kernel_rfl
theorem zr38 : zrT Tryz.prog 38 = some [.int .u64 0] := by kernel_rfl
theorem zr55 : zrT Tryz.prog 55 = some [.bool false, .slice none 0 0] := by kernel_rfl
theorem zr57 : zrT Tryz.prog 57 = some [.pointer none, .int .i64 0] := by kernel_rfl
theorem zr76 : zrT Tryz.prog 76 = some [.bool false, .int .u64 0, .int .i64 0] := by kernel_rfl
theorem zr78 : zrT Tryz.prog 78 = some [.int .u32 0] := by kernel_rfl
theorem zr81 : zrT Tryz.prog 81 = some [.slice none 0 0, .bool false] := by kernel_rfl
end Go.Proofs.YtcpififnffmjfaaGreatDoor
