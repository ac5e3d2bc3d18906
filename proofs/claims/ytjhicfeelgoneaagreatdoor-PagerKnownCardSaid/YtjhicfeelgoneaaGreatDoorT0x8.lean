/- Tables of closed calls, 0, 8: what each comes to, run once by the mirror. No condition. -/
import Derived.Test.YtjhicfeelgoneaaGreatDoorBase1
import Derived.Test.YtjhicfeelgoneaaGreatDoorMir8
import Derived.KernelRfl
namespace Go.Proofs.YtjhicfeelgoneaaGreatDoor
open Go Go.Mir
set_option maxRecDepth 100000
section
noncomputable def tb0x8 : List EntC := [⟨127, [.int .i32 (45)], .int .i8 (4), [], 10⟩,
  ⟨127, [.int .i32 (51)], .int .i8 (3), [], 10⟩,
  ⟨127, [.int .i32 (47)], .int .i8 (7), [], 10⟩,
  ⟨127, [.int .i32 (52)], .int .i8 (3), [], 10⟩,
  ⟨127, [.int .i32 (32)], .int .i8 (12), [], 10⟩,
  ⟨127, [.int .i32 (53)], .int .i8 (3), [], 10⟩]
theorem tb0x8_form : formC Tryz.prog 8 tb0x8 = true := by kernel_rfl
theorem tb0x8_run : runsC Tryz.prog (hookS) K 1000000 8 ([] : Gs) tb0x8 = true := by kernel_rfl
end
end Go.Proofs.YtjhicfeelgoneaaGreatDoor
