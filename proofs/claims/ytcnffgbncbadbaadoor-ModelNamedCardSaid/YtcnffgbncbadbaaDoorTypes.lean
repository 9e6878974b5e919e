/- Printed by a program of ours (walk.py): facts on the types. -/
import Derived.Test.YtcnffgbncbadbaaDoorTyp
import Derived.Test.YtcnffgbncbadbaaDoorProg
import Derived.KernelRfl
namespace Go.Proofs.YtcnffgbncbadbaaDoor
open Go Go.Bn
theorem mixed : Tryd.prog.follows .mixedOrders = true := by kernel_rfl
theorem ag123 : agT Tryd.prog 123 = some 3 := by kernel_rfl
theorem ag27 : agT Tryd.prog 27 = some 1 := by kernel_rfl
theorem ag48 : agT Tryd.prog 48 = some 3 := by kernel_rfl
theorem ag58 : agT Tryd.prog 58 = some 9 := by kernel_rfl
theorem ag69 : agT Tryd.prog 69 = some 4 := by kernel_rfl
theorem ar131 : arT Tryd.prog 131 = some (2, 123, 3) := by kernel_rfl
theorem f6452 : f64T Tryd.prog 52 = true := by kernel_rfl
theorem fd123_0 : fdT Tryd.prog 123 0 = some (0, 1) := by kernel_rfl
theorem fd123_1 : fdT Tryd.prog 123 1 = some (1, 1) := by kernel_rfl
theorem fd27_0 : fdT Tryd.prog 27 0 = some (0, 1) := by kernel_rfl
theorem fd48_0 : fdT Tryd.prog 48 0 = some (0, 1) := by kernel_rfl
theorem fd48_1 : fdT Tryd.prog 48 1 = some (1, 1) := by kernel_rfl
theorem fd48_2 : fdT Tryd.prog 48 2 = some (2, 1) := by kernel_rfl
theorem fd58_0 : fdT Tryd.prog 58 0 = some (0, 1) := by kernel_rfl
theorem fd58_1 : fdT Tryd.prog 58 1 = some (1, 3) := by kernel_rfl
theorem fd58_2 : fdT Tryd.prog 58 2 = some (4, 1) := by kernel_rfl
theorem fd58_4 : fdT Tryd.prog 58 4 = some (8, 1) := by kernel_rfl
theorem fd63_0 : fdT Tryd.prog 63 0 = some (0, 1) := by kernel_rfl
theorem fd63_1 : fdT Tryd.prog 63 1 = some (1, 1) := by kernel_rfl
theorem fd63_2 : fdT Tryd.prog 63 2 = some (2, 1) := by kernel_rfl
theorem fd63_3 : fdT Tryd.prog 63 3 = some (3, 1) := by kernel_rfl
theorem fd63_4 : fdT Tryd.prog 63 4 = some (4, 1) := by kernel_rfl
theorem fd63_5 : fdT Tryd.prog 63 5 = some (5, 1) := by kernel_rfl
theorem fd69_0 : fdT Tryd.prog 69 0 = some (0, 1) := by kernel_rfl
theorem fd69_1 : fdT Tryd.prog 69 1 = some (1, 1) := by kernel_rfl
theorem fd69_2 : fdT Tryd.prog 69 2 = some (2, 1) := by kernel_rfl
theorem fd69_3 : fdT Tryd.prog 69 3 = some (3, 1) := by kernel_rfl
theorem fd76_0 : fdT Tryd.prog 76 0 = some (0, 1) := by kernel_rfl
theorem fd76_1 : fdT Tryd.prog 76 1 = some (1, 1) := by kernel_rfl
theorem fd76_2 : fdT Tryd.prog 76 2 = some (2, 1) := by kernel_rfl
theorem fd76_3 : fdT Tryd.prog 76 3 = some (3, 1) := by kernel_rfl
theorem it2 : itT Tryd.prog 2 = some .i64 := by kernel_rfl
theorem it3 : itT Tryd.prog 3 = some .i64 := by kernel_rfl
theorem it59 : itT Tryd.prog 59 = some .u64 := by kernel_rfl
theorem pl123 : plT Tryd.prog 123 = some [(0, 1), (1, 1), (2, 1)] := by kernel_rfl
theorem pl27 : plT Tryd.prog 27 = some [(0, 1)] := by kernel_rfl
theorem pl48 : plT Tryd.prog 48 = some [(0, 1), (1, 1), (2, 1)] := by kernel_rfl
theorem pl58 : plT Tryd.prog 58 = some [(0, 1), (1, 3), (4, 1), (5, 3), (8, 1)] := by kernel_rfl
theorem pl69 : plT Tryd.prog 69 = some [(0, 1), (1, 1), (2, 1), (3, 1)] := by kernel_rfl
theorem sc112 : scT Tryd.prog 112 = true := by kernel_rfl
theorem sc23 : scT Tryd.prog 23 = true := by kernel_rfl
theorem sc25 : scT Tryd.prog 25 = true := by kernel_rfl
theorem sc3 : scT Tryd.prog 3 = true := by kernel_rfl
theorem sc44 : scT Tryd.prog 44 = true := by kernel_rfl
theorem sc45 : scT Tryd.prog 45 = true := by kernel_rfl
theorem sc52 : scT Tryd.prog 52 = true := by kernel_rfl
theorem sc59 : scT Tryd.prog 59 = true := by kernel_rfl
theorem sc9 : scT Tryd.prog 9 = true := by kernel_rfl
theorem sl108 : slT Tryd.prog 108 = some (23, 1, 8) := by kernel_rfl
theorem sl22 : slT Tryd.prog 22 = some (76, 4, 32) := by kernel_rfl
theorem sl25 : slT Tryd.prog 25 = some (69, 4, 32) := by kernel_rfl
theorem sl37 : slT Tryd.prog 37 = some (9, 1, 16) := by kernel_rfl
theorem sl43 : slT Tryd.prog 43 = some (3, 1, 8) := by kernel_rfl
theorem sl44 : slT Tryd.prog 44 = some (59, 1, 8) := by kernel_rfl
theorem sl45 : slT Tryd.prog 45 = some (52, 1, 8) := by kernel_rfl
theorem sl70 : slT Tryd.prog 70 = some (45, 1, 24) := by kernel_rfl
theorem sz123 : szT Tryd.prog 123 = some 3 := by kernel_rfl
theorem sz25 : szT Tryd.prog 25 = some 1 := by kernel_rfl
theorem sz27 : szT Tryd.prog 27 = some 1 := by kernel_rfl
theorem sz45 : szT Tryd.prog 45 = some 1 := by kernel_rfl
theorem sz48 : szT Tryd.prog 48 = some 3 := by kernel_rfl
theorem sz52 : szT Tryd.prog 52 = some 1 := by kernel_rfl
theorem sz58 : szT Tryd.prog 58 = some 9 := by kernel_rfl
theorem sz69 : szT Tryd.prog 69 = some 4 := by kernel_rfl
theorem zr123 : zrT Tryd.prog 123 = some [.int .u64 0, .int .i64 0, .int .i64 0] := by kernel_rfl
theorem zr131 : zrT Tryd.prog 131 = some [.int .u64 0, .int .i64 0, .int .i64 0, .int .u64 0, .int .i64 0, .int .i64 0] := by kernel_rfl
theorem zr23 : zrT Tryd.prog 23 = some [.int .i64 0] := by kernel_rfl
theorem zr27 : zrT Tryd.prog 27 = some [.slice none 0 0] := by kernel_rfl
theorem zr3 : zrT Tryd.prog 3 = some [.int .i64 0] := by kernel_rfl
theorem zr45 : zrT Tryd.prog 45 = some [.slice none 0 0] := by kernel_rfl
theorem zr48 : zrT Tryd.prog 48 = some [.int .i64 0, .int .i64 0, .slice none 0 0] := by kernel_rfl
theorem zr52 : zrT Tryd.prog 52 = some [.float .f64 0] := by kernel_rfl
theorem zr58 : zrT Tryd.prog 58 = some [.int .i64 0, .int .i64 0, .int .i64 0, .slice none 0 0, .slice none 0 0, .int .i64 0, .int .i64 0, .int .i64 0, .float .f64 0] := by kernel_rfl
theorem zr69 : zrT Tryd.prog 69 = some [.int .i64 0, .int .i64 0, .float .f64 0, .float .f64 0] := by kernel_rfl
theorem zr9 : zrT Tryd.prog 9 = some [.string ⟨#[]⟩] := by kernel_rfl
end Go.Proofs.YtcnffgbncbadbaaDoor
