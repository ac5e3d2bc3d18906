/-
  DERIVED. GIVEN WITH THE SEED: THE CARDS: each row of YteghkjkagopdkaaDoorRows.lean that lists a variable, with what it lists TIED to the program's text (the seventh form; the later family's looks); each row that meets fmt, with fmt's text TOLD by the authors' own Lean function (tested against real Go, not proved from fmt's source: count such statements apart). THE CARD IS WHAT COUNTS. Prove the row's statement (the work); the ties are given (YteghkjkagopdkaaDoorTie.lean); close each card by the builder's one call (the guide's Derived/Test/ToyasCard.lean, 'card_holds'). Laid BY PROGRAM, IN A SANDBOX (cutbox-door.mjs). By AI agents, Wed Nov 11 2026. No macro, syntax, notation, axiom, sorry.
-/
import Derived.Test.YteghkjkagopdkaaDoorRows
import GoSem.ClaimSeven
namespace Go.Proofs.YteghkjkagopdkaaDoor
namespace Rows

/-- THE TIED CARD OF 'shuttlelaw21.FindOrder'. -/
def findOrderCard : Claim7 := { stood := { row := findOrderRow, standIns := [], harness := (true, "8a20a92613ce8749e5b2010151a09152838102b961f9577b206bf89f0c0d88fd"), looks := true }, kinds := [], alts := [], laidByText := true, laidKinds := [.data, .handle, .pinned], laidTests := true, laidLooks := .later }
def FindOrderCardSaid : Prop := Claim7.holds Tryd.pinned (.plain (OpenSpec.ofChange findOrderSpec)) findOrderCard

/-- THE TIED CARD OF 'shuttlelaw21.FindReplaced'. -/
def findReplacedCard : Claim7 := { stood := { row := findReplacedRow, standIns := [], harness := (true, "8a20a92613ce8749e5b2010151a09152838102b961f9577b206bf89f0c0d88fd"), looks := true }, kinds := [], alts := [], laidByText := true, laidKinds := [.data, .handle, .pinned], laidTests := true, laidLooks := .later }
def FindReplacedCardSaid : Prop := Claim7.holds Tryd.pinned (.plain (OpenSpec.ofChange findReplacedSpec)) findReplacedCard

/-- THE TIED CARD OF 'shuttlelaw21.FindNil'. -/
def findNilCard : Claim7 := { stood := { row := findNilRow, standIns := [], harness := (true, "8a20a92613ce8749e5b2010151a09152838102b961f9577b206bf89f0c0d88fd"), looks := true }, kinds := [], alts := [], laidByText := true, laidKinds := [.data, .handle, .pinned], laidTests := true, laidLooks := .later }
def FindNilCardSaid : Prop := Claim7.holds Tryd.pinned (.plain (OpenSpec.ofChange findNilSpec)) findNilCard

/-- THE TIED CARD OF 'shuttlelaw21.FindKnown'. -/
def findKnownCard : Claim7 := { stood := { row := findKnownRow, standIns := [], harness := (true, "8a20a92613ce8749e5b2010151a09152838102b961f9577b206bf89f0c0d88fd"), looks := true }, kinds := [], alts := [], laidByText := true, laidKinds := [.data, .handle, .pinned], laidTests := true, laidLooks := .later }
def FindKnownCardSaid : Prop := Claim7.holds Tryd.pinned (.plain (OpenSpec.ofChange findKnownSpec)) findKnownCard

/-- THE TIED CARD OF 'shuttlelaw21.FindQuoted'. -/
def findQuotedCard : Claim7 := { stood := { row := findQuotedRow, standIns := [], harness := (true, "8a20a92613ce8749e5b2010151a09152838102b961f9577b206bf89f0c0d88fd"), looks := true }, kinds := [], alts := [], laidByText := true, laidKinds := [.data, .handle, .pinned], laidTests := true, laidLooks := .later }
def FindQuotedCardSaid : Prop := Claim7.holds Tryd.pinned (.plain (OpenSpec.ofChange findQuotedSpec)) findQuotedCard

/-- THE SECOND FORM's CARD OF 'shuttlelaw21.FindOrder'. -/
def findOrderUptoCard : Claim7 := { stood := { row := findOrderUptoRow, standIns := [], harness := (true, "8a20a92613ce8749e5b2010151a09152838102b961f9577b206bf89f0c0d88fd"), looks := true }, kinds := [], alts := [], laidByText := true, laidKinds := [.data, .handle, .pinned], laidTests := true, laidLooks := .later }
def FindOrderUptoCardSaid : Prop := Claim7.holds Tryd.pinned (.plain (OpenSpec.upto findOrderSpec)) findOrderUptoCard

/-- THE SECOND FORM's CARD OF 'shuttlelaw21.FindReplaced'. -/
def findReplacedUptoCard : Claim7 := { stood := { row := findReplacedUptoRow, standIns := [], harness := (true, "8a20a92613ce8749e5b2010151a09152838102b961f9577b206bf89f0c0d88fd"), looks := true }, kinds := [], alts := [], laidByText := true, laidKinds := [.data, .handle, .pinned], laidTests := true, laidLooks := .later }
def FindReplacedUptoCardSaid : Prop := Claim7.holds Tryd.pinned (.plain (OpenSpec.upto findReplacedSpec)) findReplacedUptoCard

/-- THE SECOND FORM's CARD OF 'shuttlelaw21.FindNil'. -/
def findNilUptoCard : Claim7 := { stood := { row := findNilUptoRow, standIns := [], harness := (true, "8a20a92613ce8749e5b2010151a09152838102b961f9577b206bf89f0c0d88fd"), looks := true }, kinds := [], alts := [], laidByText := true, laidKinds := [.data, .handle, .pinned], laidTests := true, laidLooks := .later }
def FindNilUptoCardSaid : Prop := Claim7.holds Tryd.pinned (.plain (OpenSpec.upto findNilSpec)) findNilUptoCard

/-- THE SECOND FORM's CARD OF 'shuttlelaw21.FindKnown'. -/
def findKnownUptoCard : Claim7 := { stood := { row := findKnownUptoRow, standIns := [], harness := (true, "8a20a92613ce8749e5b2010151a09152838102b961f9577b206bf89f0c0d88fd"), looks := true }, kinds := [], alts := [], laidByText := true, laidKinds := [.data, .handle, .pinned], laidTests := true, laidLooks := .later }
def FindKnownUptoCardSaid : Prop := Claim7.holds Tryd.pinned (.plain (OpenSpec.upto findKnownSpec)) findKnownUptoCard

/-- THE SECOND FORM's CARD OF 'shuttlelaw21.FindQuoted'. -/
def findQuotedUptoCard : Claim7 := { stood := { row := findQuotedUptoRow, standIns := [], harness := (true, "8a20a92613ce8749e5b2010151a09152838102b961f9577b206bf89f0c0d88fd"), looks := true }, kinds := [], alts := [], laidByText := true, laidKinds := [.data, .handle, .pinned], laidTests := true, laidLooks := .later }
def FindQuotedUptoCardSaid : Prop := Claim7.holds Tryd.pinned (.plain (OpenSpec.upto findQuotedSpec)) findQuotedUptoCard
end Rows
end Go.Proofs.YteghkjkagopdkaaDoor
