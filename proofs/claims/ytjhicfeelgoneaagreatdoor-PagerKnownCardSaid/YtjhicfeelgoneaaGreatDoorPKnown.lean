/- PagerKnown: the law says true; nothing that stood there turns. No condition. -/
import Derived.Test.YtjhicfeelgoneaaGreatDoorPHold
import Derived.Test.YtjhicfeelgoneaaGreatDoorPF4
import Derived.Test.YtjhicfeelgoneaaGreatDoorPKnown1
import Derived.Test.YtjhicfeelgoneaaGreatDoorCards
import Derived.Test.YtjhicfeelgoneaaGreatDoorTie
import Derived.JoinedOf
import Derived.ProofKit
import Derived.ChangeMaps5
import Derived.Stop.Joined
import Derived.SevenTiedAt
namespace Go.Proofs.YtjhicfeelgoneaaGreatDoor
open Go Go.Mir Go.ChangeMaps Go.ChangeShapes Go.WideShapes Go.ChangeAt Go.RowKit

/-- THE TIED CARD. -/
theorem known_card : Rows.PagerKnownCardSaid :=
  Claim7.holds_tied_plain_at .later [] [.data, .data, .data, .data, .sentinel, .sentinel, .pinned] true (true, "d83c1ac87b4f341b77be03e0482545afb7fdc49688a6ba5480fbd68e2c6f92f0") true
    known_holds (fun _ h => by cases h) jc_wf (fun _ h => by cases h) pagerKnown_row_tie rfl ⟨rfl, rfl⟩ jc_main rfl
    (fun f fn hf hfn => by
      obtain rfl : f = 4 := Option.some.inj (jf_name.symm.trans hf) |>.symm
      obtain rfl : fn = Tryz.f4 := (Option.some.inj (Tryz.func4.symm.trans hfn)).symm
      exact ⟨jc_looks, fun j t ht => by
        rw [Tryz.params4] at ht
        have hm : t ∈ ([] : List Nat) := by simpa using Array.mem_of_getElem? ht
        cases hm⟩)
    jc_goes
#print axioms known_card
end Go.Proofs.YtjhicfeelgoneaaGreatDoor
