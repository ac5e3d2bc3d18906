/- Tables of closed calls, 3, 1: what each comes to, run once by the mirror. No condition. -/
import Derived.Test.YtjhicfeelgoneaaGreatDoorT2
import Derived.Test.YtjhicfeelgoneaaGreatDoorMir8
import Derived.KernelRfl
namespace Go.Proofs.YtjhicfeelgoneaaGreatDoor
open Go Go.Mir
set_option maxRecDepth 100000
section
noncomputable def tb3x1 : List EntC := [⟨74, [.str [50, 45, 51, 47, 52, 32, 53, 48, 37], .int .i64 (3), .agg [.int .i64 (0), .bool false, .int .i8 (0), .bool false, .bool false]], .sl 504 0 3 3 5 false, [⟨504, .cells 78 false 0 [.int .i64 (0), .int .i64 (3), .int .u8 (0), .int .i64 (3), .int .i8 (3), .int .i64 (3), .int .i64 (3), .int .u8 (0), .int .i64 (3), .int .i8 (2), .int .i64 (6), .int .i64 (3), .int .u8 (0), .int .i64 (3), .int .i8 (0)]⟩], 505⟩]
theorem tb3x1_form : formC Tryz.prog 8 tb3x1 = true := by kernel_rfl
theorem tb3x1_run : runsC Tryz.prog (hook2) K 1000000 8 gs tb3x1 = true := by kernel_rfl
end
end Go.Proofs.YtjhicfeelgoneaaGreatDoor
