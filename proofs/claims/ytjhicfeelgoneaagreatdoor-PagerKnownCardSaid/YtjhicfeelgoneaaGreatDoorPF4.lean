/- PagerKnown: a fact of the program that the tied card names. -/
import Derived.Test.YtjhicfeelgoneaaGreatDoorPF3
namespace Go.Proofs.YtjhicfeelgoneaaGreatDoor
open Go
set_option maxRecDepth 100000
theorem jc_goes : false = Rows.pagerKnownRow.goesBy Tryz.prog := by kernel_rfl
theorem jc_wf : Rows.pagerKnownRow.wfByText (OpenSpec.ofChange Rows.pagerKnownSpec) = true := by kernel_rfl
end Go.Proofs.YtjhicfeelgoneaaGreatDoor
