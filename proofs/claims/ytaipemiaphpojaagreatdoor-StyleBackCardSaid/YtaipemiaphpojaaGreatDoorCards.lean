/-
  DERIVED. GIVEN WITH THE SEED: THE CARDS: each row of YtaipemiaphpojaaGreatDoorRows.lean that lists a variable, with what it lists TIED to the program's text (the seventh form; the later family's looks); each row that meets fmt, with fmt's text TOLD by the authors' own Lean function (tested against real Go, not proved from fmt's source: count such statements apart). THE CARD IS WHAT COUNTS. Prove the row's statement (the work); the ties are given (YtaipemiaphpojaaGreatDoorTie.lean); close each card by the builder's one call (the guide's Derived/Test/ToyasCard.lean, 'card_holds'). Laid BY PROGRAM, IN A SANDBOX (cutbox-door.mjs). By AI agents, Wed Nov 11 2026. No macro, syntax, notation, axiom, sorry.
-/
import Derived.Test.YtaipemiaphpojaaGreatDoorRows
import GoSem.ClaimSeven
namespace Go.Proofs.YtaipemiaphpojaaGreatDoor
namespace Rows

/-- THE TIED CARD OF 'shuttlelaw23.StylePrints'. -/
def stylePrintsCard : Claim7 := { stood := { row := stylePrintsRow, standIns := [], harness := (true, "0faff946a1b0354a72b80edcf003e6b6464e614aba53644716c9383e271c7940"), looks := true }, kinds := [], alts := [], laidByText := true, laidKinds := [.data, .data, .data, .data, .sentinel, .sentinel, .pinned], laidTests := true, laidLooks := .later }
def StylePrintsCardSaid : Prop := Claim7.holds Tryz.pinned (.plain (OpenSpec.ofChange stylePrintsSpec)) stylePrintsCard

/-- THE TIED CARD OF 'shuttlelaw23.StyleWins'. -/
def styleWinsCard : Claim7 := { stood := { row := styleWinsRow, standIns := [], harness := (true, "0faff946a1b0354a72b80edcf003e6b6464e614aba53644716c9383e271c7940"), looks := true }, kinds := [], alts := [], laidByText := true, laidKinds := [.data, .data, .data, .data, .sentinel, .sentinel, .pinned], laidTests := true, laidLooks := .later }
def StyleWinsCardSaid : Prop := Claim7.holds Tryz.pinned (.plain (OpenSpec.ofChange styleWinsSpec)) styleWinsCard

/-- THE TIED CARD OF 'shuttlelaw23.StyleLow'. -/
def styleLowCard : Claim7 := { stood := { row := styleLowRow, standIns := [], harness := (true, "0faff946a1b0354a72b80edcf003e6b6464e614aba53644716c9383e271c7940"), looks := true }, kinds := [], alts := [], laidByText := true, laidKinds := [.data, .data, .data, .data, .sentinel, .sentinel, .pinned], laidTests := true, laidLooks := .later }
def StyleLowCardSaid : Prop := Claim7.holds Tryz.pinned (.plain (OpenSpec.ofChange styleLowSpec)) styleLowCard

/-- THE TIED CARD OF 'shuttlelaw23.StyleBack'. -/
def styleBackCard : Claim7 := { stood := { row := styleBackRow, standIns := [], harness := (true, "0faff946a1b0354a72b80edcf003e6b6464e614aba53644716c9383e271c7940"), looks := true }, kinds := [], alts := [], laidByText := true, laidKinds := [.data, .data, .data, .data, .sentinel, .sentinel, .pinned], laidTests := true, laidLooks := .later }
def StyleBackCardSaid : Prop := Claim7.holds Tryz.pinned (.plain (OpenSpec.ofChange styleBackSpec)) styleBackCard

/-- THE TIED CARD OF 'shuttlelaw23.StyleParses'. -/
def styleParsesCard : Claim7 := { stood := { row := styleParsesRow, standIns := [], harness := (true, "0faff946a1b0354a72b80edcf003e6b6464e614aba53644716c9383e271c7940"), looks := true }, kinds := [], alts := [], laidByText := true, laidKinds := [.data, .data, .data, .data, .handle, .sentinel, .sentinel, .pinned], laidTests := true, laidLooks := .later }
def StyleParsesCardSaid : Prop := Claim7.holds Tryz.pinned (.plain (OpenSpec.ofChange styleParsesSpec)) styleParsesCard

/-- THE TIED CARD OF 'shuttlelaw23.StyleKnown'. -/
def styleKnownCard : Claim7 := { stood := { row := styleKnownRow, standIns := [], harness := (true, "0faff946a1b0354a72b80edcf003e6b6464e614aba53644716c9383e271c7940"), looks := true }, kinds := [], alts := [], laidByText := true, laidKinds := [.data, .data, .data, .data, .handle, .sentinel, .sentinel, .pinned], laidTests := true, laidLooks := .later }
def StyleKnownCardSaid : Prop := Claim7.holds Tryz.pinned (.plain (OpenSpec.ofChange styleKnownSpec)) styleKnownCard

/-- THE SECOND FORM's CARD OF 'shuttlelaw23.StylePrints'. -/
def stylePrintsUptoCard : Claim7 := { stood := { row := stylePrintsUptoRow, standIns := [], harness := (true, "0faff946a1b0354a72b80edcf003e6b6464e614aba53644716c9383e271c7940"), looks := true }, kinds := [], alts := [], laidByText := true, laidKinds := [.data, .data, .data, .data, .sentinel, .sentinel, .pinned], laidTests := true, laidLooks := .later }
def StylePrintsUptoCardSaid : Prop := Claim7.holds Tryz.pinned (.plain (OpenSpec.upto stylePrintsSpec)) stylePrintsUptoCard

/-- THE SECOND FORM's CARD OF 'shuttlelaw23.StyleWins'. -/
def styleWinsUptoCard : Claim7 := { stood := { row := styleWinsUptoRow, standIns := [], harness := (true, "0faff946a1b0354a72b80edcf003e6b6464e614aba53644716c9383e271c7940"), looks := true }, kinds := [], alts := [], laidByText := true, laidKinds := [.data, .data, .data, .data, .sentinel, .sentinel, .pinned], laidTests := true, laidLooks := .later }
def StyleWinsUptoCardSaid : Prop := Claim7.holds Tryz.pinned (.plain (OpenSpec.upto styleWinsSpec)) styleWinsUptoCard

/-- THE SECOND FORM's CARD OF 'shuttlelaw23.StyleLow'. -/
def styleLowUptoCard : Claim7 := { stood := { row := styleLowUptoRow, standIns := [], harness := (true, "0faff946a1b0354a72b80edcf003e6b6464e614aba53644716c9383e271c7940"), looks := true }, kinds := [], alts := [], laidByText := true, laidKinds := [.data, .data, .data, .data, .sentinel, .sentinel, .pinned], laidTests := true, laidLooks := .later }
def StyleLowUptoCardSaid : Prop := Claim7.holds Tryz.pinned (.plain (OpenSpec.upto styleLowSpec)) styleLowUptoCard

/-- THE SECOND FORM's CARD OF 'shuttlelaw23.StyleBack'. -/
def styleBackUptoCard : Claim7 := { stood := { row := styleBackUptoRow, standIns := [], harness := (true, "0faff946a1b0354a72b80edcf003e6b6464e614aba53644716c9383e271c7940"), looks := true }, kinds := [], alts := [], laidByText := true, laidKinds := [.data, .data, .data, .data, .sentinel, .sentinel, .pinned], laidTests := true, laidLooks := .later }
def StyleBackUptoCardSaid : Prop := Claim7.holds Tryz.pinned (.plain (OpenSpec.upto styleBackSpec)) styleBackUptoCard

/-- THE SECOND FORM's CARD OF 'shuttlelaw23.StyleParses'. -/
def styleParsesUptoCard : Claim7 := { stood := { row := styleParsesUptoRow, standIns := [], harness := (true, "0faff946a1b0354a72b80edcf003e6b6464e614aba53644716c9383e271c7940"), looks := true }, kinds := [], alts := [], laidByText := true, laidKinds := [.data, .data, .data, .data, .handle, .sentinel, .sentinel, .pinned], laidTests := true, laidLooks := .later }
def StyleParsesUptoCardSaid : Prop := Claim7.holds Tryz.pinned (.plain (OpenSpec.upto styleParsesSpec)) styleParsesUptoCard

/-- THE SECOND FORM's CARD OF 'shuttlelaw23.StyleKnown'. -/
def styleKnownUptoCard : Claim7 := { stood := { row := styleKnownUptoRow, standIns := [], harness := (true, "0faff946a1b0354a72b80edcf003e6b6464e614aba53644716c9383e271c7940"), looks := true }, kinds := [], alts := [], laidByText := true, laidKinds := [.data, .data, .data, .data, .handle, .sentinel, .sentinel, .pinned], laidTests := true, laidLooks := .later }
def StyleKnownUptoCardSaid : Prop := Claim7.holds Tryz.pinned (.plain (OpenSpec.upto styleKnownSpec)) styleKnownUptoCard
end Rows
end Go.Proofs.YtaipemiaphpojaaGreatDoor
