/- Tables of closed calls, 0, 6: what each comes to, run once by the mirror. No condition. -/
import Derived.Test.YtjhicfeelgoneaaGreatDoorBase1
import Derived.Test.YtjhicfeelgoneaaGreatDoorMir8
import Derived.KernelRfl
namespace Go.Proofs.YtjhicfeelgoneaaGreatDoor
open Go Go.Mir
set_option maxRecDepth 100000
section
noncomputable def tb0x6 : List EntC := [⟨178, [.int .i32 (52)], .int .i8 (4), [], 10⟩,
  ⟨116, [.int .i32 (47)], .int .i8 (11), [], 10⟩,
  ⟨178, [.int .i32 (32)], .int .i8 (5), [], 10⟩,
  ⟨116, [.int .i32 (52)], .int .i8 (10), [], 10⟩,
  ⟨178, [.int .i32 (53)], .int .i8 (4), [], 10⟩,
  ⟨116, [.int .i32 (32)], .int .i8 (1), [], 10⟩]
theorem tb0x6_form : formC Tryz.prog 8 tb0x6 = true := by kernel_rfl
theorem tb0x6_run : runsC Tryz.prog (hookS) K 1000000 8 ([] : Gs) tb0x6 = true := by kernel_rfl
end
end Go.Proofs.YtjhicfeelgoneaaGreatDoor
