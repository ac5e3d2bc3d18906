/- Tables of closed calls, 6, 0: what each comes to, run once by the mirror. No condition. -/
import Derived.Test.YtjhicfeelgoneaaGreatDoorT5
import Derived.Test.YtjhicfeelgoneaaGreatDoorMir8
import Derived.KernelRfl
namespace Go.Proofs.YtjhicfeelgoneaaGreatDoor
open Go Go.Mir
set_option maxRecDepth 100000
section
noncomputable def tb6x0 : List EntC := [⟨14, [], .bool true, [], 2081⟩]
theorem tb6x0_form : formC Tryz.prog 8 tb6x0 = true := by kernel_rfl
theorem tb6x0_run : runsC Tryz.prog (hook5) K 1000000 8 gs tb6x0 = true := by kernel_rfl
end
end Go.Proofs.YtjhicfeelgoneaaGreatDoor
