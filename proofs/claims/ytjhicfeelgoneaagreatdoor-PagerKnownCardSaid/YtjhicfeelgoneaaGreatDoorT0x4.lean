/- Tables of closed calls, 0, 4: what each comes to, run once by the mirror. No condition. -/
import Derived.Test.YtjhicfeelgoneaaGreatDoorBase1
import Derived.Test.YtjhicfeelgoneaaGreatDoorMir8
import Derived.KernelRfl
namespace Go.Proofs.YtjhicfeelgoneaaGreatDoor
open Go Go.Mir
set_option maxRecDepth 100000
section
noncomputable def tb0x4 : List EntC := [⟨127, [.int .i32 (101)], .int .i8 (0), [], 10⟩,
  ⟨233, [.int .i32 (101)], .tup [.int .i32 (0), .bool false, .bool false], [], 9⟩,
  ⟨218, [.int .i32 (101), .bool false], .int .i64 (1), [], 10⟩,
  ⟨127, [.int .i32 (10)], .int .i8 (10), [], 10⟩,
  ⟨233, [.int .i32 (10)], .tup [.int .i32 (0), .bool false, .bool false], [], 9⟩,
  ⟨178, [.int .i32 (50)], .int .i8 (4), [], 10⟩]
theorem tb0x4_form : formC Tryz.prog 8 tb0x4 = true := by kernel_rfl
theorem tb0x4_run : runsC Tryz.prog (hookS) K 1000000 8 ([] : Gs) tb0x4 = true := by kernel_rfl
end
end Go.Proofs.YtjhicfeelgoneaaGreatDoor
