/- Printed by a program of ours (walk.py): facts on the types. -/
import Derived.Test.YtjfkpnacfnnkhaaDoorKb
import Derived.Test.YtjfkpnacfnnkhaaDoorProg
import Derived.KernelRfl
namespace Go.Proofs.YtjfkpnacfnnkhaaDoor
open Go Go.Bn
theorem mixed : Tryd.prog.follows .mixedOrders = true := by kernel_rfl
theorem ag103 : agT Tryd.prog 103 = some 3 := by kernel_rfl
theorem ag26 : agT Tryd.prog 26 = some 6 := by kernel_rfl
theorem ag30 : agT Tryd.prog 30 = some 1 := by kernel_rfl
theorem ag34 : agT Tryd.prog 34 = some 3 := by kernel_rfl
theorem ag39 : agT Tryd.prog 39 = some 9 := by kernel_rfl
theorem ag51 : agT Tryd.prog 51 = some 4 := by kernel_rfl
theorem ar112 : arT Tryd.prog 112 = some (2, 103, 3) := by kernel_rfl
theorem f6437 : f64T Tryd.prog 37 = true := by kernel_rfl
theorem fd103_0 : fdT Tryd.prog 103 0 = some (0, 1) := by kernel_rfl
theorem fd103_1 : fdT Tryd.prog 103 1 = some (1, 1) := by kernel_rfl
theorem fd26_0 : fdT Tryd.prog 26 0 = some (0, 1) := by kernel_rfl
theorem fd26_1 : fdT Tryd.prog 26 1 = some (1, 1) := by kernel_rfl
theorem fd26_2 : fdT Tryd.prog 26 2 = some (2, 1) := by kernel_rfl
theorem fd26_3 : fdT Tryd.prog 26 3 = some (3, 1) := by kernel_rfl
theorem fd26_4 : fdT Tryd.prog 26 4 = some (4, 1) := by kernel_rfl
theorem fd26_5 : fdT Tryd.prog 26 5 = some (5, 1) := by kernel_rfl
theorem fd30_0 : fdT Tryd.prog 30 0 = some (0, 1) := by kernel_rfl
theorem fd34_0 : fdT Tryd.prog 34 0 = some (0, 1) := by kernel_rfl
theorem fd34_1 : fdT Tryd.prog 34 1 = some (1, 1) := by kernel_rfl
theorem fd34_2 : fdT Tryd.prog 34 2 = some (2, 1) := by kernel_rfl
theorem fd39_0 : fdT Tryd.prog 39 0 = some (0, 1) := by kernel_rfl
theorem fd39_1 : fdT Tryd.prog 39 1 = some (1, 3) := by kernel_rfl
theorem fd39_2 : fdT Tryd.prog 39 2 = some (4, 1) := by kernel_rfl
theorem fd39_4 : fdT Tryd.prog 39 4 = some (8, 1) := by kernel_rfl
theorem fd51_0 : fdT Tryd.prog 51 0 = some (0, 1) := by kernel_rfl
theorem fd51_1 : fdT Tryd.prog 51 1 = some (1, 1) := by kernel_rfl
theorem fd51_2 : fdT Tryd.prog 51 2 = some (2, 1) := by kernel_rfl
theorem fd51_3 : fdT Tryd.prog 51 3 = some (3, 1) := by kernel_rfl
theorem fd56_0 : fdT Tryd.prog 56 0 = some (0, 1) := by kernel_rfl
theorem fd56_1 : fdT Tryd.prog 56 1 = some (1, 1) := by kernel_rfl
theorem fd56_2 : fdT Tryd.prog 56 2 = some (2, 1) := by kernel_rfl
theorem fd56_3 : fdT Tryd.prog 56 3 = some (3, 1) := by kernel_rfl
theorem it2 : itT Tryd.prog 2 = some .i64 := by kernel_rfl
theorem it24 : itT Tryd.prog 24 = some .u64 := by kernel_rfl
theorem it3 : itT Tryd.prog 3 = some .i64 := by kernel_rfl
theorem pl103 : plT Tryd.prog 103 = some [(0, 1), (1, 1), (2, 1)] := by kernel_rfl
theorem pl30 : plT Tryd.prog 30 = some [(0, 1)] := by kernel_rfl
theorem pl34 : plT Tryd.prog 34 = some [(0, 1), (1, 1), (2, 1)] := by kernel_rfl
theorem pl39 : plT Tryd.prog 39 = some [(0, 1), (1, 3), (4, 1), (5, 3), (8, 1)] := by kernel_rfl
theorem pl51 : plT Tryd.prog 51 = some [(0, 1), (1, 1), (2, 1), (3, 1)] := by kernel_rfl
theorem sc101 : scT Tryd.prog 101 = true := by kernel_rfl
theorem sc23 : scT Tryd.prog 23 = true := by kernel_rfl
theorem sc24 : scT Tryd.prog 24 = true := by kernel_rfl
theorem sc28 : scT Tryd.prog 28 = true := by kernel_rfl
theorem sc3 : scT Tryd.prog 3 = true := by kernel_rfl
theorem sc32 : scT Tryd.prog 32 = true := by kernel_rfl
theorem sc37 : scT Tryd.prog 37 = true := by kernel_rfl
theorem sc45 : scT Tryd.prog 45 = true := by kernel_rfl
theorem sc9 : scT Tryd.prog 9 = true := by kernel_rfl
theorem sl22 : slT Tryd.prog 22 = some (56, 4, 32) := by kernel_rfl
theorem sl23 : slT Tryd.prog 23 = some (24, 1, 8) := by kernel_rfl
theorem sl27 : slT Tryd.prog 27 = some (3, 1, 8) := by kernel_rfl
theorem sl28 : slT Tryd.prog 28 = some (51, 4, 32) := by kernel_rfl
theorem sl32 : slT Tryd.prog 32 = some (37, 1, 8) := by kernel_rfl
theorem sl42 : slT Tryd.prog 42 = some (34, 3, 40) := by kernel_rfl
theorem sl44 : slT Tryd.prog 44 = some (9, 1, 16) := by kernel_rfl
theorem sl52 : slT Tryd.prog 52 = some (32, 1, 24) := by kernel_rfl
theorem sl93 : slT Tryd.prog 93 = some (45, 1, 8) := by kernel_rfl
theorem sz103 : szT Tryd.prog 103 = some 3 := by kernel_rfl
theorem sz28 : szT Tryd.prog 28 = some 1 := by kernel_rfl
theorem sz3 : szT Tryd.prog 3 = some 1 := by kernel_rfl
theorem sz30 : szT Tryd.prog 30 = some 1 := by kernel_rfl
theorem sz32 : szT Tryd.prog 32 = some 1 := by kernel_rfl
theorem sz34 : szT Tryd.prog 34 = some 3 := by kernel_rfl
theorem sz37 : szT Tryd.prog 37 = some 1 := by kernel_rfl
theorem sz39 : szT Tryd.prog 39 = some 9 := by kernel_rfl
theorem sz51 : szT Tryd.prog 51 = some 4 := by kernel_rfl
theorem sz9 : szT Tryd.prog 9 = some 1 := by kernel_rfl
theorem zr103 : zrT Tryd.prog 103 = some [.int .u64 0, .int .i64 0, .int .i64 0] := by kernel_rfl
theorem zr112 : zrT Tryd.prog 112 = some [.int .u64 0, .int .i64 0, .int .i64 0, .int .u64 0, .int .i64 0, .int .i64 0] := by kernel_rfl
theorem zr3 : zrT Tryd.prog 3 = some [.int .i64 0] := by kernel_rfl
theorem zr30 : zrT Tryd.prog 30 = some [.slice none 0 0] := by kernel_rfl
theorem zr32 : zrT Tryd.prog 32 = some [.slice none 0 0] := by kernel_rfl
theorem zr34 : zrT Tryd.prog 34 = some [.int .i64 0, .int .i64 0, .slice none 0 0] := by kernel_rfl
theorem zr37 : zrT Tryd.prog 37 = some [.float .f64 0] := by kernel_rfl
theorem zr39 : zrT Tryd.prog 39 = some [.int .i64 0, .int .i64 0, .int .i64 0, .slice none 0 0, .slice none 0 0, .int .i64 0, .int .i64 0, .int .i64 0, .float .f64 0] := by kernel_rfl
theorem zr45 : zrT Tryd.prog 45 = some [.int .i64 0] := by kernel_rfl
theorem zr51 : zrT Tryd.prog 51 = some [.int .i64 0, .int .i64 0, .float .f64 0, .float .f64 0] := by kernel_rfl
theorem zr9 : zrT Tryd.prog 9 = some [.string ⟨#[]⟩] := by kernel_rfl
end Go.Proofs.YtjfkpnacfnnkhaaDoor
