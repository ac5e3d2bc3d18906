/- Tables of closed calls, 0, 10: what each comes to, run once by the mirror. No condition. -/
import Derived.Test.YtjhicfeelgoneaaGreatDoorBase1
import Derived.Test.YtjhicfeelgoneaaGreatDoorMir8
import Derived.KernelRfl
namespace Go.Proofs.YtjhicfeelgoneaaGreatDoor
open Go Go.Mir
set_option maxRecDepth 100000
section
noncomputable def tb0x10 : List EntC := [⟨233, [.int .i32 (32)], .tup [.int .i32 (0), .bool false, .bool false], [], 9⟩,
  ⟨233, [.int .i32 (53)], .tup [.int .i32 (0), .bool false, .bool false], [], 9⟩,
  ⟨233, [.int .i32 (48)], .tup [.int .i32 (0), .bool false, .bool false], [], 9⟩,
  ⟨233, [.int .i32 (37)], .tup [.int .i32 (0), .bool false, .bool false], [], 9⟩,
  ⟨218, [.int .i32 (50), .bool false], .int .i64 (1), [], 10⟩,
  ⟨218, [.int .i32 (45), .bool false], .int .i64 (1), [], 10⟩,
  ⟨218, [.int .i32 (51), .bool false], .int .i64 (1), [], 10⟩]
theorem tb0x10_form : formC Tryz.prog 8 tb0x10 = true := by kernel_rfl
theorem tb0x10_run : runsC Tryz.prog (hookS) K 1000000 8 ([] : Gs) tb0x10 = true := by kernel_rfl
end
end Go.Proofs.YtjhicfeelgoneaaGreatDoor
