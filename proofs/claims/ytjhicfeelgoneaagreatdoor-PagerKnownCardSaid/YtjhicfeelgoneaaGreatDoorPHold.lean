/- PagerKnown: the statement. -/
import Derived.Test.YtjhicfeelgoneaaGreatDoorPLift
import Derived.Test.YtjhicfeelgoneaaGreatDoorPF2
import Derived.Test.YtjhicfeelgoneaaGreatDoorPKnown1
import Derived.Test.YtjhicfeelgoneaaGreatDoorCards
import Derived.Test.YtjhicfeelgoneaaGreatDoorTie
import Derived.JoinedOf
import Derived.ProofKit
import Derived.ChangeMaps5
import Derived.Stop.Joined
import Derived.SevenTiedAt
namespace Go.Proofs.YtjhicfeelgoneaaGreatDoor
open Go Go.Mir Go.ChangeMaps Go.ChangeShapes Go.WideShapes Go.ChangeAt Go.RowKit

set_option maxRecDepth 100000 in
theorem known_holds : Rows.PagerKnownSaid :=
  OpenClaim.holds_of_wide 4 Tryz.f4 rfl rfl rfl rfl rfl rfl rfl ⟨rfl, rfl, rfl, rfl, rfl⟩ rfl rfl rfl rfl rfl jf_name Tryz.func4 jf jf_inst jf_wrap
    (fun os started H enc _ => known_lifted os started H enc)
end Go.Proofs.YtjhicfeelgoneaaGreatDoor
