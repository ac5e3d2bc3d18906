/-
  DERIVED. GIVEN WITH THE SEED: THE CARDS: each row of YtjhicfeelgoneaaGreatDoorRows.lean that lists a variable, with what it lists TIED to the program's text (the seventh form; the later family's looks); each row that meets fmt, with fmt's text TOLD by the authors' own Lean function (tested against real Go, not proved from fmt's source: count such statements apart). THE CARD IS WHAT COUNTS. Prove the row's statement (the work); the ties are given (YtjhicfeelgoneaaGreatDoorTie.lean); close each card by the builder's one call (the guide's Derived/Test/ToyasCard.lean, 'card_holds'). Laid BY PROGRAM, IN A SANDBOX (cutbox-door.mjs). By AI agents, Wed Nov 11 2026. No macro, syntax, notation, axiom, sorry.
-/
import Derived.Test.YtjhicfeelgoneaaGreatDoorRows
import GoSem.ClaimSeven
namespace Go.Proofs.YtjhicfeelgoneaaGreatDoor
namespace Rows

/-- THE TIED CARD OF 'shuttlelaw29.PagerNil'. -/
def pagerNilCard : Claim7 := { stood := { row := pagerNilRow, standIns := [], harness := (true, "d83c1ac87b4f341b77be03e0482545afb7fdc49688a6ba5480fbd68e2c6f92f0"), looks := true }, kinds := [], alts := [], laidByText := true, laidKinds := [.data, .data, .data, .data, .sentinel, .sentinel, .pinned], laidTests := true, laidLooks := .later }
def PagerNilCardSaid : Prop := Claim7.holds Tryz.pinned (.plain (OpenSpec.ofChange pagerNilSpec)) pagerNilCard

/-- THE TIED CARD OF 'shuttlelaw29.PagerKnown'. -/
def pagerKnownCard : Claim7 := { stood := { row := pagerKnownRow, standIns := [], harness := (true, "d83c1ac87b4f341b77be03e0482545afb7fdc49688a6ba5480fbd68e2c6f92f0"), looks := true }, kinds := [], alts := [], laidByText := true, laidKinds := [.data, .data, .data, .data, .sentinel, .sentinel, .pinned], laidTests := true, laidLooks := .later }
def PagerKnownCardSaid : Prop := Claim7.holds Tryz.pinned (.plain (OpenSpec.ofChange pagerKnownSpec)) pagerKnownCard

/-- THE TIED CARD OF 'shuttlelaw29.PagerStays'. -/
def pagerStaysCard : Claim7 := { stood := { row := pagerStaysRow, standIns := [], harness := (true, "d83c1ac87b4f341b77be03e0482545afb7fdc49688a6ba5480fbd68e2c6f92f0"), looks := true }, kinds := [], alts := [], laidByText := true, laidKinds := [.data, .data, .data, .data, .sentinel, .sentinel, .pinned], laidTests := true, laidLooks := .later }
def PagerStaysCardSaid : Prop := Claim7.holds Tryz.pinned (.plain (OpenSpec.ofChange pagerStaysSpec)) pagerStaysCard

/-- THE TIED CARD OF 'shuttlelaw29.PagerFinds'. -/
def pagerFindsCard : Claim7 := { stood := { row := pagerFindsRow, standIns := [], harness := (true, "d83c1ac87b4f341b77be03e0482545afb7fdc49688a6ba5480fbd68e2c6f92f0"), looks := true }, kinds := [], alts := [], laidByText := true, laidKinds := [.data, .data, .data, .data, .sentinel, .sentinel, .pinned], laidTests := true, laidLooks := .later }
def PagerFindsCardSaid : Prop := Claim7.holds Tryz.pinned (.plain (OpenSpec.ofChange pagerFindsSpec)) pagerFindsCard

/-- THE TIED CARD OF 'shuttlelaw29.PagerMore'. -/
def pagerMoreCard : Claim7 := { stood := { row := pagerMoreRow, standIns := [], harness := (true, "d83c1ac87b4f341b77be03e0482545afb7fdc49688a6ba5480fbd68e2c6f92f0"), looks := true }, kinds := [], alts := [], laidByText := true, laidKinds := [.data, .data, .data, .data, .sentinel, .sentinel, .pinned], laidTests := true, laidLooks := .later }
def PagerMoreCardSaid : Prop := Claim7.holds Tryz.pinned (.plain (OpenSpec.ofChange pagerMoreSpec)) pagerMoreCard

/-- THE SECOND FORM's CARD OF 'shuttlelaw29.PagerNil'. -/
def pagerNilUptoCard : Claim7 := { stood := { row := pagerNilUptoRow, standIns := [], harness := (true, "d83c1ac87b4f341b77be03e0482545afb7fdc49688a6ba5480fbd68e2c6f92f0"), looks := true }, kinds := [], alts := [], laidByText := true, laidKinds := [.data, .data, .data, .data, .sentinel, .sentinel, .pinned], laidTests := true, laidLooks := .later }
def PagerNilUptoCardSaid : Prop := Claim7.holds Tryz.pinned (.plain (OpenSpec.upto pagerNilSpec)) pagerNilUptoCard

/-- THE SECOND FORM's CARD OF 'shuttlelaw29.PagerKnown'. -/
def pagerKnownUptoCard : Claim7 := { stood := { row := pagerKnownUptoRow, standIns := [], harness := (true, "d83c1ac87b4f341b77be03e0482545afb7fdc49688a6ba5480fbd68e2c6f92f0"), looks := true }, kinds := [], alts := [], laidByText := true, laidKinds := [.data, .data, .data, .data, .sentinel, .sentinel, .pinned], laidTests := true, laidLooks := .later }
def PagerKnownUptoCardSaid : Prop := Claim7.holds Tryz.pinned (.plain (OpenSpec.upto pagerKnownSpec)) pagerKnownUptoCard

/-- THE SECOND FORM's CARD OF 'shuttlelaw29.PagerStays'. -/
def pagerStaysUptoCard : Claim7 := { stood := { row := pagerStaysUptoRow, standIns := [], harness := (true, "d83c1ac87b4f341b77be03e0482545afb7fdc49688a6ba5480fbd68e2c6f92f0"), looks := true }, kinds := [], alts := [], laidByText := true, laidKinds := [.data, .data, .data, .data, .sentinel, .sentinel, .pinned], laidTests := true, laidLooks := .later }
def PagerStaysUptoCardSaid : Prop := Claim7.holds Tryz.pinned (.plain (OpenSpec.upto pagerStaysSpec)) pagerStaysUptoCard

/-- THE SECOND FORM's CARD OF 'shuttlelaw29.PagerFinds'. -/
def pagerFindsUptoCard : Claim7 := { stood := { row := pagerFindsUptoRow, standIns := [], harness := (true, "d83c1ac87b4f341b77be03e0482545afb7fdc49688a6ba5480fbd68e2c6f92f0"), looks := true }, kinds := [], alts := [], laidByText := true, laidKinds := [.data, .data, .data, .data, .sentinel, .sentinel, .pinned], laidTests := true, laidLooks := .later }
def PagerFindsUptoCardSaid : Prop := Claim7.holds Tryz.pinned (.plain (OpenSpec.upto pagerFindsSpec)) pagerFindsUptoCard

/-- THE SECOND FORM's CARD OF 'shuttlelaw29.PagerMore'. -/
def pagerMoreUptoCard : Claim7 := { stood := { row := pagerMoreUptoRow, standIns := [], harness := (true, "d83c1ac87b4f341b77be03e0482545afb7fdc49688a6ba5480fbd68e2c6f92f0"), looks := true }, kinds := [], alts := [], laidByText := true, laidKinds := [.data, .data, .data, .data, .sentinel, .sentinel, .pinned], laidTests := true, laidLooks := .later }
def PagerMoreUptoCardSaid : Prop := Claim7.holds Tryz.pinned (.plain (OpenSpec.upto pagerMoreSpec)) pagerMoreUptoCard
end Rows
end Go.Proofs.YtjhicfeelgoneaaGreatDoor
