/- Printed by a program of ours (walk.py): facts on the types. -/
import Derived.Test.YtjnmgcglooeooaaGreatDoorPsKb
import Derived.Test.YtjnmgcglooeooaaGreatDoorProg
import Derived.KernelRfl
namespace Go.Proofs.YtjnmgcglooeooaaGreatDoor
open Go Go.Bn
theorem mixed : Tryz.prog.follows .mixedOrders = true := by kernel_rfl
theorem ag100 : agT Tryz.prog 100 = some 2 := by kernel_rfl
theorem ag120 : agT Tryz.prog 120 = some 3 := by kernel_rfl
theorem ag26 : agT Tryz.prog 26 = some 1 := by kernel_rfl
theorem ag30 : agT Tryz.prog 30 = some 3 := by kernel_rfl
theorem ag46 : agT Tryz.prog 46 = some 4 := by kernel_rfl
theorem ag64 : agT Tryz.prog 64 = some 3 := by kernel_rfl
theorem ag94 : agT Tryz.prog 94 = some 3 := by kernel_rfl
theorem ar112 : arT Tryz.prog 112 = some (2, 94, 3) := by kernel_rfl
theorem ar152 : arT Tryz.prog 152 = some (32, 5, 1) := by kernel_rfl
theorem f6439 : f64T Tryz.prog 39 = true := by kernel_rfl
theorem fd100_0 : fdT Tryz.prog 100 0 = some (0, 1) := by kernel_rfl
theorem fd100_1 : fdT Tryz.prog 100 1 = some (1, 1) := by kernel_rfl
theorem fd120_0 : fdT Tryz.prog 120 0 = some (0, 1) := by kernel_rfl
theorem fd120_1 : fdT Tryz.prog 120 1 = some (1, 1) := by kernel_rfl
theorem fd120_2 : fdT Tryz.prog 120 2 = some (2, 1) := by kernel_rfl
theorem fd26_0 : fdT Tryz.prog 26 0 = some (0, 1) := by kernel_rfl
theorem fd30_0 : fdT Tryz.prog 30 0 = some (0, 1) := by kernel_rfl
theorem fd30_1 : fdT Tryz.prog 30 1 = some (1, 1) := by kernel_rfl
theorem fd30_2 : fdT Tryz.prog 30 2 = some (2, 1) := by kernel_rfl
theorem fd46_0 : fdT Tryz.prog 46 0 = some (0, 1) := by kernel_rfl
theorem fd46_1 : fdT Tryz.prog 46 1 = some (1, 1) := by kernel_rfl
theorem fd46_2 : fdT Tryz.prog 46 2 = some (2, 1) := by kernel_rfl
theorem fd46_3 : fdT Tryz.prog 46 3 = some (3, 1) := by kernel_rfl
theorem fd51_0 : fdT Tryz.prog 51 0 = some (0, 1) := by kernel_rfl
theorem fd51_1 : fdT Tryz.prog 51 1 = some (1, 1) := by kernel_rfl
theorem fd51_2 : fdT Tryz.prog 51 2 = some (2, 1) := by kernel_rfl
theorem fd51_3 : fdT Tryz.prog 51 3 = some (3, 1) := by kernel_rfl
theorem fd64_0 : fdT Tryz.prog 64 0 = some (0, 1) := by kernel_rfl
theorem fd64_1 : fdT Tryz.prog 64 1 = some (1, 1) := by kernel_rfl
theorem fd64_2 : fdT Tryz.prog 64 2 = some (2, 1) := by kernel_rfl
theorem fd88_0 : fdT Tryz.prog 88 0 = some (0, 1) := by kernel_rfl
theorem fd88_1 : fdT Tryz.prog 88 1 = some (1, 1) := by kernel_rfl
theorem fd90_0 : fdT Tryz.prog 90 0 = some (0, 2) := by kernel_rfl
theorem fd90_1 : fdT Tryz.prog 90 1 = some (2, 2) := by kernel_rfl
theorem fd94_0 : fdT Tryz.prog 94 0 = some (0, 1) := by kernel_rfl
theorem fd94_1 : fdT Tryz.prog 94 1 = some (1, 1) := by kernel_rfl
theorem ft100_0 : fieldT Tryz.prog 100 0 = some 98 := by kernel_rfl
theorem it132 : itT Tryz.prog 132 = some .u32 := by kernel_rfl
theorem it2 : itT Tryz.prog 2 = some .i64 := by kernel_rfl
theorem it3 : itT Tryz.prog 3 = some .i64 := by kernel_rfl
theorem it37 : itT Tryz.prog 37 = some .u64 := by kernel_rfl
theorem it5 : itT Tryz.prog 5 = some .u8 := by kernel_rfl
theorem it76 : itT Tryz.prog 76 = some .u64 := by kernel_rfl
theorem pl100 : plT Tryz.prog 100 = some [(0, 1), (1, 1)] := by kernel_rfl
theorem pl120 : plT Tryz.prog 120 = some [(0, 1), (1, 1), (2, 1)] := by kernel_rfl
theorem pl26 : plT Tryz.prog 26 = some [(0, 1)] := by kernel_rfl
theorem pl30 : plT Tryz.prog 30 = some [(0, 1), (1, 1), (2, 1)] := by kernel_rfl
theorem pl46 : plT Tryz.prog 46 = some [(0, 1), (1, 1), (2, 1), (3, 1)] := by kernel_rfl
theorem pl64 : plT Tryz.prog 64 = some [(0, 1), (1, 1), (2, 1)] := by kernel_rfl
theorem pl88 : plT Tryz.prog 88 = some [(0, 1), (1, 1)] := by kernel_rfl
theorem pl94 : plT Tryz.prog 94 = some [(0, 1), (1, 1), (2, 1)] := by kernel_rfl
theorem sc132 : scT Tryz.prog 132 = true := by kernel_rfl
theorem sc24 : scT Tryz.prog 24 = true := by kernel_rfl
theorem sc28 : scT Tryz.prog 28 = true := by kernel_rfl
theorem sc3 : scT Tryz.prog 3 = true := by kernel_rfl
theorem sc37 : scT Tryz.prog 37 = true := by kernel_rfl
theorem sc39 : scT Tryz.prog 39 = true := by kernel_rfl
theorem sc4 : scT Tryz.prog 4 = true := by kernel_rfl
theorem sc5 : scT Tryz.prog 5 = true := by kernel_rfl
theorem sc62 : scT Tryz.prog 62 = true := by kernel_rfl
theorem sc76 : scT Tryz.prog 76 = true := by kernel_rfl
theorem sc80 : scT Tryz.prog 80 = true := by kernel_rfl
theorem sc86 : scT Tryz.prog 86 = true := by kernel_rfl
theorem sc98 : scT Tryz.prog 98 = true := by kernel_rfl
theorem sl22 : slT Tryz.prog 22 = some (51, 4, 32) := by kernel_rfl
theorem sl24 : slT Tryz.prog 24 = some (46, 4, 32) := by kernel_rfl
theorem sl28 : slT Tryz.prog 28 = some (39, 1, 8) := by kernel_rfl
theorem sl54 : slT Tryz.prog 54 = some (28, 1, 24) := by kernel_rfl
theorem sl62 : slT Tryz.prog 62 = some (80, 1, 8) := by kernel_rfl
theorem sl86 : slT Tryz.prog 86 = some (132, 1, 4) := by kernel_rfl
theorem sz100 : szT Tryz.prog 100 = some 2 := by kernel_rfl
theorem sz120 : szT Tryz.prog 120 = some 3 := by kernel_rfl
theorem sz132 : szT Tryz.prog 132 = some 1 := by kernel_rfl
theorem sz24 : szT Tryz.prog 24 = some 1 := by kernel_rfl
theorem sz26 : szT Tryz.prog 26 = some 1 := by kernel_rfl
theorem sz28 : szT Tryz.prog 28 = some 1 := by kernel_rfl
theorem sz30 : szT Tryz.prog 30 = some 3 := by kernel_rfl
theorem sz39 : szT Tryz.prog 39 = some 1 := by kernel_rfl
theorem sz4 : szT Tryz.prog 4 = some 1 := by kernel_rfl
theorem sz46 : szT Tryz.prog 46 = some 4 := by kernel_rfl
theorem sz62 : szT Tryz.prog 62 = some 1 := by kernel_rfl
theorem sz64 : szT Tryz.prog 64 = some 3 := by kernel_rfl
theorem sz86 : szT Tryz.prog 86 = some 1 := by kernel_rfl
theorem sz94 : szT Tryz.prog 94 = some 3 := by kernel_rfl
theorem zr100 : zrT Tryz.prog 100 = some [.pointer none, .int .i64 0] := by kernel_rfl
theorem zr112 : zrT Tryz.prog 112 = some [.int .u64 0, .int .i64 0, .int .i64 0, .int .u64 0, .int .i64 0, .int .i64 0] := by kernel_rfl
theorem zr120 : zrT Tryz.prog 120 = some [.bool false, .int .u64 0, .int .i64 0] := by kernel_rfl
theorem zr132 : zrT Tryz.prog 132 = some [.int .u32 0] := by kernel_rfl
theorem zr26 : zrT Tryz.prog 26 = some [.slice none 0 0] := by kernel_rfl
theorem zr28 : zrT Tryz.prog 28 = some [.slice none 0 0] := by kernel_rfl
theorem zr30 : zrT Tryz.prog 30 = some [.int .i64 0, .int .i64 0, .slice none 0 0] := by kernel_rfl
theorem zr39 : zrT Tryz.prog 39 = some [.float .f64 0] := by kernel_rfl
theorem zr46 : zrT Tryz.prog 46 = some [.int .i64 0, .int .i64 0, .float .f64 0, .float .f64 0] := by kernel_rfl
theorem zr64 : zrT Tryz.prog 64 = some [.int .i64 0, .int .i64 0, .slice none 0 0] := by kernel_rfl
theorem zr80 : zrT Tryz.prog 80 = some [.pointer none] := by kernel_rfl
theorem zr88 : zrT Tryz.prog 88 = some [.bool false, .slice none 0 0] := by kernel_rfl
theorem zr90 : zrT Tryz.prog 90 = some [.bool false, .slice none 0 0, .bool false, .slice none 0 0] := by kernel_rfl
theorem zr94 : zrT Tryz.prog 94 = some [.int .u64 0, .int .i64 0, .int .i64 0] := by kernel_rfl
end Go.Proofs.YtjnmgcglooeooaaGreatDoor
