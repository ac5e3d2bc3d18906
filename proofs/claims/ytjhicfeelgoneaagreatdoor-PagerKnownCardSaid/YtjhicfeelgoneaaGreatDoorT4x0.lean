/- Tables of closed calls, 4, 0: what each comes to, run once by the mirror. No condition. -/
import Derived.Test.YtjhicfeelgoneaaGreatDoorT3
import Derived.Test.YtjhicfeelgoneaaGreatDoorMir8
import Derived.KernelRfl
namespace Go.Proofs.YtjhicfeelgoneaaGreatDoor
open Go Go.Mir
set_option maxRecDepth 100000
section
noncomputable def tb4x0 : List EntC := [⟨21, [.str [97, 10, 98, 10, 99, 10, 100], .int .i64 (3), .agg [.int .i64 (0), .bool false, .int .i8 (0), .bool false, .bool false]], .sl 483 0 4 4 5 false, [⟨483, .cells 78 false 0 [.int .i64 (0), .int .i64 (1), .int .u8 (0), .int .i64 (1), .int .i8 (1), .int .i64 (2), .int .i64 (1), .int .u8 (0), .int .i64 (1), .int .i8 (1), .int .i64 (4), .int .i64 (1), .int .u8 (0), .int .i64 (1), .int .i8 (1), .int .i64 (6), .int .i64 (1), .int .u8 (0), .int .i64 (1), .int .i8 (0)]⟩], 484⟩,
  ⟨79, [.agg [.str [99], .bool false, .bool false, .bool false]], .tup [.ptr 10 0, .nili], [⟨34, .cells 183 false 0 [.int .i64 (5), .nili, .int .i64 (0), .int .i64 (0), .int .i64 (0), .iface 240 (.agg [.int .i32 (99), .bool false]), .int .i64 (0), .int .i64 (0), .int .i64 (4), .nili, .int .i64 (1), .int .i64 (1)]⟩, ⟨10, .cells 178 false 0 [.sl 34 0 3 3 4 false, .bool false, .bool false]⟩], 35⟩,
  ⟨79, [.agg [.str [40], .bool false, .bool false, .bool false]], .tup [.nilp, .iface 173 (.ptr 27 0)], [⟨27, .cells 175 false 0 [.int .i64 (210), .int .i64 (1), .str []]⟩], 28⟩,
  ⟨21, [.str [97, 10, 98, 10, 99, 10, 100, 10, 101], .int .i64 (3), .agg [.int .i64 (0), .bool false, .int .i8 (0), .bool false, .bool false]], .sl 604 0 5 5 5 false, [⟨604, .cells 78 false 0 [.int .i64 (0), .int .i64 (1), .int .u8 (0), .int .i64 (1), .int .i8 (1), .int .i64 (2), .int .i64 (1), .int .u8 (0), .int .i64 (1), .int .i8 (1), .int .i64 (4), .int .i64 (1), .int .u8 (0), .int .i64 (1), .int .i8 (1), .int .i64 (6), .int .i64 (1), .int .u8 (0), .int .i64 (1), .int .i8 (1), .int .i64 (8), .int .i64 (1), .int .u8 (0), .int .i64 (1), .int .i8 (0)]⟩], 605⟩,
  ⟨32, [.str [97, 10, 98, 10, 99, 10, 100], .agg [.int .i64 (2), .int .i64 (1), .int .u8 (0), .int .i64 (1), .int .i8 (1)], .agg [.int .i64 (0), .bool false, .int .i8 (0), .bool false, .bool false], .nils], .sl 135 0 1 1 6 true, [⟨135, .cells 71 false 0 [.str [98], .int .i8 (0), .int .i64 (2), .int .i64 (1), .bool false, .int .u16 (0)]⟩], 139⟩,
  ⟨32, [.str [97, 10, 98, 10, 99, 10, 100], .agg [.int .i64 (4), .int .i64 (1), .int .u8 (0), .int .i64 (1), .int .i8 (1)], .agg [.int .i64 (0), .bool false, .int .i8 (0), .bool false, .bool false], .nils], .sl 137 0 1 1 6 true, [⟨137, .cells 71 false 0 [.str [99], .int .i8 (0), .int .i64 (4), .int .i64 (1), .bool false, .int .u16 (0)]⟩], 141⟩,
  ⟨21, [.str [50, 45, 51, 47, 52, 32, 53, 48, 37], .int .i64 (3), .agg [.int .i64 (0), .bool false, .int .i8 (0), .bool false, .bool false]], .sl 764 0 3 3 5 false, [⟨764, .cells 78 false 0 [.int .i64 (0), .int .i64 (3), .int .u8 (0), .int .i64 (3), .int .i8 (3), .int .i64 (3), .int .i64 (3), .int .u8 (0), .int .i64 (3), .int .i8 (2), .int .i64 (6), .int .i64 (3), .int .u8 (0), .int .i64 (3), .int .i8 (0)]⟩], 765⟩]
theorem tb4x0_form : formC Tryz.prog 8 tb4x0 = true := by kernel_rfl
theorem tb4x0_run : runsC Tryz.prog (hook3) K 1000000 8 gs tb4x0 = true := by kernel_rfl
end
end Go.Proofs.YtjhicfeelgoneaaGreatDoor
