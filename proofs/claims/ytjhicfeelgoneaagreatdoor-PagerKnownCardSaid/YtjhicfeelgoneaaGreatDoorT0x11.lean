/- Tables of closed calls, 0, 11: what each comes to, run once by the mirror. No condition. -/
import Derived.Test.YtjhicfeelgoneaaGreatDoorBase1
import Derived.Test.YtjhicfeelgoneaaGreatDoorMir8
import Derived.KernelRfl
namespace Go.Proofs.YtjhicfeelgoneaaGreatDoor
open Go Go.Mir
set_option maxRecDepth 100000
section
noncomputable def tb0x11 : List EntC := [⟨218, [.int .i32 (47), .bool false], .int .i64 (1), [], 10⟩,
  ⟨218, [.int .i32 (52), .bool false], .int .i64 (1), [], 10⟩,
  ⟨218, [.int .i32 (32), .bool false], .int .i64 (1), [], 10⟩,
  ⟨218, [.int .i32 (53), .bool false], .int .i64 (1), [], 10⟩,
  ⟨218, [.int .i32 (48), .bool false], .int .i64 (1), [], 10⟩,
  ⟨218, [.int .i32 (37), .bool false], .int .i64 (1), [], 10⟩]
theorem tb0x11_form : formC Tryz.prog 8 tb0x11 = true := by kernel_rfl
theorem tb0x11_run : runsC Tryz.prog (hookS) K 1000000 8 ([] : Gs) tb0x11 = true := by kernel_rfl
end
end Go.Proofs.YtjhicfeelgoneaaGreatDoor
