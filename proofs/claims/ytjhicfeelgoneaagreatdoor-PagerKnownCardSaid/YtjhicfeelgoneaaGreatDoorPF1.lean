/- PagerKnown: facts of the program that the statement names. -/
import Derived.Test.YtjhicfeelgoneaaGreatDoorCards
import Derived.JoinedOf
import Derived.ProofKit
namespace Go.Proofs.YtjhicfeelgoneaaGreatDoor
open Go
set_option maxRecDepth 100000
theorem jf_inPlace : (Rows.pagerKnownRow.inPlace == Tryz.prog.inPlace 4) = true := by kernel_rfl
theorem jf_unf : (Rows.pagerKnownRow.unfollowed == Tryz.prog.unfollowed 4) = true := by kernel_rfl
theorem jf_rec : (Rows.pagerKnownRow.recurses == Tryz.prog.recurses 4) = true := by kernel_rfl
theorem jf_named : (Rows.pagerKnownRow.named == Tryz.prog.varsNamed 4) = true := by kernel_rfl
theorem jf_plain : (Rows.pagerKnownRow.plainKeys == Tryz.prog.plainKeys) = true := by kernel_rfl
theorem jf_stops : Tryz.prog.stopsHeard = true := by kernel_rfl
theorem jf_enter : Tryz.prog.mayEnter = true := by kernel_rfl
theorem jf_lift : (Rows.pagerKnownRow.lifted == Tryz.prog.liftsFinal) = true := by kernel_rfl
end Go.Proofs.YtjhicfeelgoneaaGreatDoor
