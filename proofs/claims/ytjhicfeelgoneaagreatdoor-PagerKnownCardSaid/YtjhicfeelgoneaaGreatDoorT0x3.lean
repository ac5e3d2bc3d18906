/- Tables of closed calls, 0, 3: what each comes to, run once by the mirror. No condition. -/
import Derived.Test.YtjhicfeelgoneaaGreatDoorBase1
import Derived.Test.YtjhicfeelgoneaaGreatDoorMir8
import Derived.KernelRfl
namespace Go.Proofs.YtjhicfeelgoneaaGreatDoor
open Go Go.Mir
set_option maxRecDepth 100000
section
noncomputable def tb0x3 : List EntC := [⟨116, [.int .i32 (100)], .int .i8 (0), [], 10⟩,
  ⟨127, [.int .i32 (100)], .int .i8 (0), [], 10⟩,
  ⟨233, [.int .i32 (100)], .tup [.int .i32 (0), .bool false, .bool false], [], 9⟩,
  ⟨218, [.int .i32 (100), .bool false], .int .i64 (1), [], 10⟩,
  ⟨178, [.int .i32 (101)], .int .i8 (3), [], 10⟩,
  ⟨116, [.int .i32 (101)], .int .i8 (0), [], 10⟩]
theorem tb0x3_form : formC Tryz.prog 8 tb0x3 = true := by kernel_rfl
theorem tb0x3_run : runsC Tryz.prog (hookS) K 1000000 8 ([] : Gs) tb0x3 = true := by kernel_rfl
end
end Go.Proofs.YtjhicfeelgoneaaGreatDoor
