/- Tables of closed calls, 0, 9: what each comes to, run once by the mirror. No condition. -/
import Derived.Test.YtjhicfeelgoneaaGreatDoorBase1
import Derived.Test.YtjhicfeelgoneaaGreatDoorMir8
import Derived.KernelRfl
namespace Go.Proofs.YtjhicfeelgoneaaGreatDoor
open Go Go.Mir
set_option maxRecDepth 100000
section
noncomputable def tb0x9 : List EntC := [⟨127, [.int .i32 (48)], .int .i8 (3), [], 10⟩,
  ⟨127, [.int .i32 (37)], .int .i8 (5), [], 10⟩,
  ⟨233, [.int .i32 (50)], .tup [.int .i32 (0), .bool false, .bool false], [], 9⟩,
  ⟨233, [.int .i32 (45)], .tup [.int .i32 (0), .bool false, .bool false], [], 9⟩,
  ⟨233, [.int .i32 (51)], .tup [.int .i32 (0), .bool false, .bool false], [], 9⟩,
  ⟨233, [.int .i32 (47)], .tup [.int .i32 (0), .bool false, .bool false], [], 9⟩,
  ⟨233, [.int .i32 (52)], .tup [.int .i32 (0), .bool false, .bool false], [], 9⟩]
theorem tb0x9_form : formC Tryz.prog 8 tb0x9 = true := by kernel_rfl
theorem tb0x9_run : runsC Tryz.prog (hookS) K 1000000 8 ([] : Gs) tb0x9 = true := by kernel_rfl
end
end Go.Proofs.YtjhicfeelgoneaaGreatDoor
