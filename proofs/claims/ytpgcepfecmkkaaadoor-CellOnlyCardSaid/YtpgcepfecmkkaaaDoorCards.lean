/-
  DERIVED. GIVEN WITH THE SEED: THE CARDS: each row of YtpgcepfecmkkaaaDoorRows.lean that lists a variable, with what it lists TIED to the program's text (the seventh form; the later family's looks); each row that meets fmt, with fmt's text TOLD by the authors' own Lean function (tested against real Go, not proved from fmt's source: count such statements apart). THE CARD IS WHAT COUNTS. Prove the row's statement (the work); the ties are given (YtpgcepfecmkkaaaDoorTie.lean); close each card by the builder's one call (the guide's Derived/Test/ToyasCard.lean, 'card_holds'). Laid BY PROGRAM, IN A SANDBOX (cutbox-door.mjs). By AI agents, Wed Nov 11 2026. No macro, syntax, notation, axiom, sorry.
-/
import Derived.Test.YtpgcepfecmkkaaaDoorRows
import GoSem.ClaimSeven
namespace Go.Proofs.YtpgcepfecmkkaaaDoor
namespace Rows

/-- THE TIED CARD OF 'incipitlaw11.CellMay'. -/
def cellMayCard : Claim7 := { stood := { row := cellMayRow, standIns := [], harness := (true, "dd7bca9cb73ca33723b0794e0bf553720db3bf4741497de685c7980d570a933c"), looks := false }, kinds := [], alts := [], laidByText := true, laidKinds := [.data, .pinned], laidTests := true, laidLooks := .later }
def CellMayCardSaid : Prop := Claim7.holds Tryd.pinned (.plain (OpenSpec.ofChange cellMaySpec)) cellMayCard

/-- THE TIED CARD OF 'incipitlaw11.CellFits'. -/
def cellFitsCard : Claim7 := { stood := { row := cellFitsRow, standIns := [], harness := (true, "dd7bca9cb73ca33723b0794e0bf553720db3bf4741497de685c7980d570a933c"), looks := false }, kinds := [], alts := [], laidByText := true, laidKinds := [.data, .pinned], laidTests := true, laidLooks := .later }
def CellFitsCardSaid : Prop := Claim7.holds Tryd.pinned (.plain (OpenSpec.ofChange cellFitsSpec)) cellFitsCard

/-- THE TIED CARD OF 'incipitlaw11.CellPuts'. -/
def cellPutsCard : Claim7 := { stood := { row := cellPutsRow, standIns := [], harness := (true, "dd7bca9cb73ca33723b0794e0bf553720db3bf4741497de685c7980d570a933c"), looks := false }, kinds := [], alts := [], laidByText := true, laidKinds := [.data, .pinned], laidTests := true, laidLooks := .later }
def CellPutsCardSaid : Prop := Claim7.holds Tryd.pinned (.plain (OpenSpec.ofChange cellPutsSpec)) cellPutsCard

/-- THE TIED CARD OF 'incipitlaw11.CellOnly'. -/
def cellOnlyCard : Claim7 := { stood := { row := cellOnlyRow, standIns := [], harness := (true, "dd7bca9cb73ca33723b0794e0bf553720db3bf4741497de685c7980d570a933c"), looks := false }, kinds := [], alts := [], laidByText := true, laidKinds := [.data, .pinned], laidTests := true, laidLooks := .later }
def CellOnlyCardSaid : Prop := Claim7.holds Tryd.pinned (.plain (OpenSpec.ofChange cellOnlySpec)) cellOnlyCard

/-- THE TIED CARD OF 'incipitlaw11.CellBack'. -/
def cellBackCard : Claim7 := { stood := { row := cellBackRow, standIns := [], harness := (true, "dd7bca9cb73ca33723b0794e0bf553720db3bf4741497de685c7980d570a933c"), looks := false }, kinds := [], alts := [], laidByText := true, laidKinds := [.data, .pinned], laidTests := true, laidLooks := .later }
def CellBackCardSaid : Prop := Claim7.holds Tryd.pinned (.plain (OpenSpec.ofChange cellBackSpec)) cellBackCard

/-- THE SECOND FORM's CARD OF 'incipitlaw11.CellMay'. -/
def cellMayUptoCard : Claim7 := { stood := { row := cellMayUptoRow, standIns := [], harness := (true, "dd7bca9cb73ca33723b0794e0bf553720db3bf4741497de685c7980d570a933c"), looks := false }, kinds := [], alts := [], laidByText := true, laidKinds := [.data, .pinned], laidTests := true, laidLooks := .later }
def CellMayUptoCardSaid : Prop := Claim7.holds Tryd.pinned (.plain (OpenSpec.upto cellMaySpec)) cellMayUptoCard

/-- THE SECOND FORM's CARD OF 'incipitlaw11.CellFits'. -/
def cellFitsUptoCard : Claim7 := { stood := { row := cellFitsUptoRow, standIns := [], harness := (true, "dd7bca9cb73ca33723b0794e0bf553720db3bf4741497de685c7980d570a933c"), looks := false }, kinds := [], alts := [], laidByText := true, laidKinds := [.data, .pinned], laidTests := true, laidLooks := .later }
def CellFitsUptoCardSaid : Prop := Claim7.holds Tryd.pinned (.plain (OpenSpec.upto cellFitsSpec)) cellFitsUptoCard

/-- THE SECOND FORM's CARD OF 'incipitlaw11.CellPuts'. -/
def cellPutsUptoCard : Claim7 := { stood := { row := cellPutsUptoRow, standIns := [], harness := (true, "dd7bca9cb73ca33723b0794e0bf553720db3bf4741497de685c7980d570a933c"), looks := false }, kinds := [], alts := [], laidByText := true, laidKinds := [.data, .pinned], laidTests := true, laidLooks := .later }
def CellPutsUptoCardSaid : Prop := Claim7.holds Tryd.pinned (.plain (OpenSpec.upto cellPutsSpec)) cellPutsUptoCard

/-- THE SECOND FORM's CARD OF 'incipitlaw11.CellOnly'. -/
def cellOnlyUptoCard : Claim7 := { stood := { row := cellOnlyUptoRow, standIns := [], harness := (true, "dd7bca9cb73ca33723b0794e0bf553720db3bf4741497de685c7980d570a933c"), looks := false }, kinds := [], alts := [], laidByText := true, laidKinds := [.data, .pinned], laidTests := true, laidLooks := .later }
def CellOnlyUptoCardSaid : Prop := Claim7.holds Tryd.pinned (.plain (OpenSpec.upto cellOnlySpec)) cellOnlyUptoCard

/-- THE SECOND FORM's CARD OF 'incipitlaw11.CellBack'. -/
def cellBackUptoCard : Claim7 := { stood := { row := cellBackUptoRow, standIns := [], harness := (true, "dd7bca9cb73ca33723b0794e0bf553720db3bf4741497de685c7980d570a933c"), looks := false }, kinds := [], alts := [], laidByText := true, laidKinds := [.data, .pinned], laidTests := true, laidLooks := .later }
def CellBackUptoCardSaid : Prop := Claim7.holds Tryd.pinned (.plain (OpenSpec.upto cellBackSpec)) cellBackUptoCard
end Rows
end Go.Proofs.YtpgcepfecmkkaaaDoor
