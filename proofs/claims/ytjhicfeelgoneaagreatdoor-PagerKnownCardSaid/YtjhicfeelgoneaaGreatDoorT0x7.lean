/- Tables of closed calls, 0, 7: what each comes to, run once by the mirror. No condition. -/
import Derived.Test.YtjhicfeelgoneaaGreatDoorBase1
import Derived.Test.YtjhicfeelgoneaaGreatDoorMir8
import Derived.KernelRfl
namespace Go.Proofs.YtjhicfeelgoneaaGreatDoor
open Go Go.Mir
set_option maxRecDepth 100000
section
noncomputable def tb0x7 : List EntC := [⟨178, [.int .i32 (48)], .int .i8 (4), [], 10⟩,
  ⟨116, [.int .i32 (53)], .int .i8 (10), [], 10⟩,
  ⟨178, [.int .i32 (37)], .int .i8 (6), [], 10⟩,
  ⟨116, [.int .i32 (48)], .int .i8 (10), [], 10⟩,
  ⟨116, [.int .i32 (37)], .int .i8 (0), [], 10⟩,
  ⟨127, [.int .i32 (50)], .int .i8 (3), [], 10⟩]
theorem tb0x7_form : formC Tryz.prog 8 tb0x7 = true := by kernel_rfl
theorem tb0x7_run : runsC Tryz.prog (hookS) K 1000000 8 ([] : Gs) tb0x7 = true := by kernel_rfl
end
end Go.Proofs.YtjhicfeelgoneaaGreatDoor
