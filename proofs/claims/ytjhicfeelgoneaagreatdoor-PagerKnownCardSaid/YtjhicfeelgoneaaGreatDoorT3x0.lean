/- Tables of closed calls, 3, 0: what each comes to, run once by the mirror. No condition. -/
import Derived.Test.YtjhicfeelgoneaaGreatDoorT2
import Derived.Test.YtjhicfeelgoneaaGreatDoorMir8
import Derived.KernelRfl
namespace Go.Proofs.YtjhicfeelgoneaaGreatDoor
open Go Go.Mir
set_option maxRecDepth 100000
section
noncomputable def tb3x0 : List EntC := [⟨74, [.str [97, 10], .int .i64 (3), .agg [.int .i64 (0), .bool false, .int .i8 (0), .bool false, .bool false]], .sl 97 0 1 1 5 false, [⟨97, .cells 78 false 0 [.int .i64 (0), .int .i64 (1), .int .u8 (0), .int .i64 (1), .int .i8 (1)]⟩], 98⟩,
  ⟨74, [.str [98, 10], .int .i64 (3), .agg [.int .i64 (0), .bool false, .int .i8 (0), .bool false, .bool false]], .sl 97 0 1 1 5 false, [⟨97, .cells 78 false 0 [.int .i64 (0), .int .i64 (1), .int .u8 (0), .int .i64 (1), .int .i8 (1)]⟩], 98⟩,
  ⟨74, [.str [99, 10], .int .i64 (3), .agg [.int .i64 (0), .bool false, .int .i8 (0), .bool false, .bool false]], .sl 97 0 1 1 5 false, [⟨97, .cells 78 false 0 [.int .i64 (0), .int .i64 (1), .int .u8 (0), .int .i64 (1), .int .i8 (1)]⟩], 98⟩,
  ⟨74, [.str [100], .int .i64 (3), .agg [.int .i64 (0), .bool false, .int .i8 (0), .bool false, .bool false]], .sl 85 0 1 1 5 false, [⟨85, .cells 78 false 0 [.int .i64 (0), .int .i64 (1), .int .u8 (0), .int .i64 (1), .int .i8 (0)]⟩], 86⟩,
  ⟨74, [.str [100, 10], .int .i64 (3), .agg [.int .i64 (0), .bool false, .int .i8 (0), .bool false, .bool false]], .sl 97 0 1 1 5 false, [⟨97, .cells 78 false 0 [.int .i64 (0), .int .i64 (1), .int .u8 (0), .int .i64 (1), .int .i8 (1)]⟩], 98⟩,
  ⟨74, [.str [101], .int .i64 (3), .agg [.int .i64 (0), .bool false, .int .i8 (0), .bool false, .bool false]], .sl 85 0 1 1 5 false, [⟨85, .cells 78 false 0 [.int .i64 (0), .int .i64 (1), .int .u8 (0), .int .i64 (1), .int .i8 (0)]⟩], 86⟩]
theorem tb3x0_form : formC Tryz.prog 8 tb3x0 = true := by kernel_rfl
theorem tb3x0_run : runsC Tryz.prog (hook2) K 1000000 8 gs tb3x0 = true := by kernel_rfl
end
end Go.Proofs.YtjhicfeelgoneaaGreatDoor
