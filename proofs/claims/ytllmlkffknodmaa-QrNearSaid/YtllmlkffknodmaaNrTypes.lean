/- Printed by a program of ours (walk.py): facts on the types. -/
import Derived.Test.YtllmlkffknodmaaNrKb
import Derived.Test.YtllmlkffknodmaaProg
import Derived.KernelRfl
namespace Go.Proofs.Ytllmlkffknodmaa
open Go Go.Bn
theorem mixed : Try.prog.follows .mixedOrders = true := by kernel_rfl
theorem ag127 : agT Try.prog 127 = some 3 := by kernel_rfl
theorem ag32 : agT Try.prog 32 = some 2 := by kernel_rfl
theorem ag46 : agT Try.prog 46 = some 3 := by kernel_rfl
theorem ag77 : agT Try.prog 77 = some 3 := by kernel_rfl
theorem ag85 : agT Try.prog 85 = some 3 := by kernel_rfl
theorem ar131 : arT Try.prog 131 = some (2, 127, 3) := by kernel_rfl
theorem fd127_0 : fdT Try.prog 127 0 = some (0, 1) := by kernel_rfl
theorem fd127_1 : fdT Try.prog 127 1 = some (1, 1) := by kernel_rfl
theorem fd32_0 : fdT Try.prog 32 0 = some (0, 1) := by kernel_rfl
theorem fd32_1 : fdT Try.prog 32 1 = some (1, 1) := by kernel_rfl
theorem fd46_0 : fdT Try.prog 46 0 = some (0, 1) := by kernel_rfl
theorem fd46_1 : fdT Try.prog 46 1 = some (1, 1) := by kernel_rfl
theorem fd46_2 : fdT Try.prog 46 2 = some (2, 1) := by kernel_rfl
theorem fd72_0 : fdT Try.prog 72 0 = some (0, 1) := by kernel_rfl
theorem fd72_1 : fdT Try.prog 72 1 = some (1, 1) := by kernel_rfl
theorem fd77_0 : fdT Try.prog 77 0 = some (0, 1) := by kernel_rfl
theorem fd77_1 : fdT Try.prog 77 1 = some (1, 1) := by kernel_rfl
theorem fd77_2 : fdT Try.prog 77 2 = some (2, 1) := by kernel_rfl
theorem fd85_0 : fdT Try.prog 85 0 = some (0, 1) := by kernel_rfl
theorem fd85_1 : fdT Try.prog 85 1 = some (1, 1) := by kernel_rfl
theorem fd85_2 : fdT Try.prog 85 2 = some (2, 1) := by kernel_rfl
theorem ft32_0 : fieldT Try.prog 32 0 = some 30 := by kernel_rfl
theorem it101 : itT Try.prog 101 = some .u64 := by kernel_rfl
theorem it124 : itT Try.prog 124 = some .u32 := by kernel_rfl
theorem it2 : itT Try.prog 2 = some .i64 := by kernel_rfl
theorem it22 : itT Try.prog 22 = some .u64 := by kernel_rfl
theorem it3 : itT Try.prog 3 = some .i64 := by kernel_rfl
theorem pl127 : plT Try.prog 127 = some [(0, 1), (1, 1), (2, 1)] := by kernel_rfl
theorem pl32 : plT Try.prog 32 = some [(0, 1), (1, 1)] := by kernel_rfl
theorem pl46 : plT Try.prog 46 = some [(0, 1), (1, 1), (2, 1)] := by kernel_rfl
theorem pl72 : plT Try.prog 72 = some [(0, 1), (1, 1)] := by kernel_rfl
theorem pl77 : plT Try.prog 77 = some [(0, 1), (1, 1), (2, 1)] := by kernel_rfl
theorem pl85 : plT Try.prog 85 = some [(0, 1), (1, 1), (2, 1)] := by kernel_rfl
theorem sc101 : scT Try.prog 101 = true := by kernel_rfl
theorem sc124 : scT Try.prog 124 = true := by kernel_rfl
theorem sc22 : scT Try.prog 22 = true := by kernel_rfl
theorem sc24 : scT Try.prog 24 = true := by kernel_rfl
theorem sc3 : scT Try.prog 3 = true := by kernel_rfl
theorem sc30 : scT Try.prog 30 = true := by kernel_rfl
theorem sc34 : scT Try.prog 34 = true := by kernel_rfl
theorem sc4 : scT Try.prog 4 = true := by kernel_rfl
theorem sc70 : scT Try.prog 70 = true := by kernel_rfl
theorem sl34 : slT Try.prog 34 = some (24, 1, 8) := by kernel_rfl
theorem sl42 : slT Try.prog 42 = some (22, 1, 8) := by kernel_rfl
theorem sl50 : slT Try.prog 50 = some (46, 3, 40) := by kernel_rfl
theorem sl70 : slT Try.prog 70 = some (124, 1, 4) := by kernel_rfl
theorem sl82 : slT Try.prog 82 = some (34, 1, 24) := by kernel_rfl
theorem sz124 : szT Try.prog 124 = some 1 := by kernel_rfl
theorem sz127 : szT Try.prog 127 = some 3 := by kernel_rfl
theorem sz24 : szT Try.prog 24 = some 1 := by kernel_rfl
theorem sz32 : szT Try.prog 32 = some 2 := by kernel_rfl
theorem sz34 : szT Try.prog 34 = some 1 := by kernel_rfl
theorem sz4 : szT Try.prog 4 = some 1 := by kernel_rfl
theorem sz46 : szT Try.prog 46 = some 3 := by kernel_rfl
theorem sz70 : szT Try.prog 70 = some 1 := by kernel_rfl
theorem sz77 : szT Try.prog 77 = some 3 := by kernel_rfl
theorem sz85 : szT Try.prog 85 = some 3 := by kernel_rfl
theorem zr124 : zrT Try.prog 124 = some [.int .u32 0] := by kernel_rfl
theorem zr127 : zrT Try.prog 127 = some [.int .u64 0, .int .i64 0, .int .i64 0] := by kernel_rfl
theorem zr131 : zrT Try.prog 131 = some [.int .u64 0, .int .i64 0, .int .i64 0, .int .u64 0, .int .i64 0, .int .i64 0] := by kernel_rfl
theorem zr24 : zrT Try.prog 24 = some [.float .f64 0] := by kernel_rfl
theorem zr32 : zrT Try.prog 32 = some [.pointer none, .int .i64 0] := by kernel_rfl
theorem zr34 : zrT Try.prog 34 = some [.slice none 0 0] := by kernel_rfl
theorem zr46 : zrT Try.prog 46 = some [.int .i64 0, .int .i64 0, .slice none 0 0] := by kernel_rfl
theorem zr72 : zrT Try.prog 72 = some [.bool false, .slice none 0 0] := by kernel_rfl
theorem zr77 : zrT Try.prog 77 = some [.bool false, .int .u64 0, .int .i64 0] := by kernel_rfl
theorem zr85 : zrT Try.prog 85 = some [.slice none 0 0, .float .f64 0, .float .f64 0] := by kernel_rfl
end Go.Proofs.Ytllmlkffknodmaa
