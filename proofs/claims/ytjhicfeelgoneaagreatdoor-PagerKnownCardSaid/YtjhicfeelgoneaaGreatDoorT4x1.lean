/- Tables of closed calls, 4, 1: what each comes to, run once by the mirror. No condition. -/
import Derived.Test.YtjhicfeelgoneaaGreatDoorT3
import Derived.Test.YtjhicfeelgoneaaGreatDoorMir8
import Derived.KernelRfl
namespace Go.Proofs.YtjhicfeelgoneaaGreatDoor
open Go Go.Mir
set_option maxRecDepth 100000
section
noncomputable def tb4x1 : List EntC := [⟨32, [.str [50, 45, 51, 47, 52, 32, 53, 48, 37], .agg [.int .i64 (0), .int .i64 (3), .int .u8 (0), .int .i64 (3), .int .i8 (3)], .agg [.int .i64 (0), .bool false, .int .i8 (0), .bool false, .bool false], .nils], .sl 260 0 3 3 6 true, [⟨260, .cells 71 false 0 [.str [50], .int .i8 (0), .int .i64 (0), .int .i64 (1), .bool false, .int .u16 (0), .str [45], .int .i8 (0), .int .i64 (1), .int .i64 (1), .bool false, .int .u16 (0), .str [51], .int .i8 (0), .int .i64 (2), .int .i64 (1), .bool false, .int .u16 (0)]⟩], 270⟩,
  ⟨79, [.agg [.str [120], .bool false, .bool false, .bool false]], .tup [.ptr 10 0, .nili], [⟨34, .cells 183 false 0 [.int .i64 (5), .nili, .int .i64 (0), .int .i64 (0), .int .i64 (0), .iface 240 (.agg [.int .i32 (120), .bool false]), .int .i64 (0), .int .i64 (0), .int .i64 (4), .nili, .int .i64 (1), .int .i64 (1)]⟩, ⟨10, .cells 178 false 0 [.sl 34 0 3 3 4 false, .bool false, .bool false]⟩], 35⟩]
theorem tb4x1_form : formC Tryz.prog 8 tb4x1 = true := by kernel_rfl
theorem tb4x1_run : runsC Tryz.prog (hook3) K 1000000 8 gs tb4x1 = true := by kernel_rfl
end
end Go.Proofs.YtjhicfeelgoneaaGreatDoor
