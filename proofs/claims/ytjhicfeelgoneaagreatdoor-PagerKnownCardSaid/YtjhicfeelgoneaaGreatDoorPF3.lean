/- PagerKnown: facts of the program that the tied card names. -/
import Derived.Test.YtjhicfeelgoneaaGreatDoorPF2
namespace Go.Proofs.YtjhicfeelgoneaaGreatDoor
open Go
set_option maxRecDepth 100000
theorem jc_main : Tryz.prog.mainIs = some (true, "d83c1ac87b4f341b77be03e0482545afb7fdc49688a6ba5480fbd68e2c6f92f0".toList) := by kernel_rfl
theorem jc_looks : true = Tryz.prog.looks [] := by kernel_rfl
end Go.Proofs.YtjhicfeelgoneaaGreatDoor
