/-
  DERIVED. GIVEN WITH THE SEED: THE CARDS: each row of YtoeapiooombomaaDoorRows.lean that lists a variable, with what it lists TIED to the program's text (the seventh form; the later family's looks); each row that meets fmt, with fmt's text TOLD by the authors' own Lean function (tested against real Go, not proved from fmt's source: count such statements apart). THE CARD IS WHAT COUNTS. Prove the row's statement (the work); the ties are given (YtoeapiooombomaaDoorTie.lean); close each card by the builder's one call (the guide's Derived/Test/ToyasCard.lean, 'card_holds'). Laid BY PROGRAM, IN A SANDBOX (cutbox-door.mjs). By AI agents, Wed Nov 11 2026. No macro, syntax, notation, axiom, sorry.
-/
import Derived.Test.YtoeapiooombomaaDoorRows
import GoSem.ClaimSeven
namespace Go.Proofs.YtoeapiooombomaaDoor
namespace Rows

/-- THE TIED CARD OF 'incipitlaw08.UtfNext'. -/
def utfNextCard : Claim7 := { stood := { row := utfNextRow, standIns := [], harness := (true, "0e012193b520482b7a135b5d7eddadf11c66c299097cd6404d494e1f3415ab00"), looks := false }, kinds := [], alts := [], laidByText := true, laidKinds := [.data, .pinned], laidTests := true, laidLooks := .later }
def UtfNextCardSaid : Prop := Claim7.holds Tryd.pinned (.plain (OpenSpec.ofChange utfNextSpec)) utfNextCard

/-- THE TIED CARD OF 'incipitlaw08.UtfLetter'. -/
def utfLetterCard : Claim7 := { stood := { row := utfLetterRow, standIns := [], harness := (true, "0e012193b520482b7a135b5d7eddadf11c66c299097cd6404d494e1f3415ab00"), looks := false }, kinds := [], alts := [], laidByText := true, laidKinds := [.data, .pinned], laidTests := true, laidLooks := .later }
def UtfLetterCardSaid : Prop := Claim7.holds Tryd.pinned (.plain (OpenSpec.ofChange utfLetterSpec)) utfLetterCard

/-- THE TIED CARD OF 'incipitlaw08.UtfSteps'. -/
def utfStepsCard : Claim7 := { stood := { row := utfStepsRow, standIns := [], harness := (true, "0e012193b520482b7a135b5d7eddadf11c66c299097cd6404d494e1f3415ab00"), looks := false }, kinds := [], alts := [], laidByText := true, laidKinds := [.data, .pinned], laidTests := true, laidLooks := .later }
def UtfStepsCardSaid : Prop := Claim7.holds Tryd.pinned (.plain (OpenSpec.ofChange utfStepsSpec)) utfStepsCard

/-- THE TIED CARD OF 'incipitlaw08.UtfJoins'. -/
def utfJoinsCard : Claim7 := { stood := { row := utfJoinsRow, standIns := [], harness := (true, "0e012193b520482b7a135b5d7eddadf11c66c299097cd6404d494e1f3415ab00"), looks := false }, kinds := [], alts := [], laidByText := true, laidKinds := [.data, .pinned], laidTests := true, laidLooks := .later }
def UtfJoinsCardSaid : Prop := Claim7.holds Tryd.pinned (.plain (OpenSpec.ofChange utfJoinsSpec)) utfJoinsCard

/-- THE TIED CARD OF 'incipitlaw08.UtfSmall'. -/
def utfSmallCard : Claim7 := { stood := { row := utfSmallRow, standIns := [], harness := (true, "0e012193b520482b7a135b5d7eddadf11c66c299097cd6404d494e1f3415ab00"), looks := false }, kinds := [], alts := [], laidByText := true, laidKinds := [.data, .pinned], laidTests := true, laidLooks := .later }
def UtfSmallCardSaid : Prop := Claim7.holds Tryd.pinned (.plain (OpenSpec.ofChange utfSmallSpec)) utfSmallCard

/-- THE TIED CARD OF 'incipitlaw08.UtfFault'. -/
def utfFaultCard : Claim7 := { stood := { row := utfFaultRow, standIns := [], harness := (true, "0e012193b520482b7a135b5d7eddadf11c66c299097cd6404d494e1f3415ab00"), looks := false }, kinds := [], alts := [], laidByText := true, laidKinds := [.data, .pinned], laidTests := true, laidLooks := .later }
def UtfFaultCardSaid : Prop := Claim7.holds Tryd.pinned (.plain (OpenSpec.ofChange utfFaultSpec)) utfFaultCard

/-- THE SECOND FORM's CARD OF 'incipitlaw08.UtfNext'. -/
def utfNextUptoCard : Claim7 := { stood := { row := utfNextUptoRow, standIns := [], harness := (true, "0e012193b520482b7a135b5d7eddadf11c66c299097cd6404d494e1f3415ab00"), looks := false }, kinds := [], alts := [], laidByText := true, laidKinds := [.data, .pinned], laidTests := true, laidLooks := .later }
def UtfNextUptoCardSaid : Prop := Claim7.holds Tryd.pinned (.plain (OpenSpec.upto utfNextSpec)) utfNextUptoCard

/-- THE SECOND FORM's CARD OF 'incipitlaw08.UtfLetter'. -/
def utfLetterUptoCard : Claim7 := { stood := { row := utfLetterUptoRow, standIns := [], harness := (true, "0e012193b520482b7a135b5d7eddadf11c66c299097cd6404d494e1f3415ab00"), looks := false }, kinds := [], alts := [], laidByText := true, laidKinds := [.data, .pinned], laidTests := true, laidLooks := .later }
def UtfLetterUptoCardSaid : Prop := Claim7.holds Tryd.pinned (.plain (OpenSpec.upto utfLetterSpec)) utfLetterUptoCard

/-- THE SECOND FORM's CARD OF 'incipitlaw08.UtfSteps'. -/
def utfStepsUptoCard : Claim7 := { stood := { row := utfStepsUptoRow, standIns := [], harness := (true, "0e012193b520482b7a135b5d7eddadf11c66c299097cd6404d494e1f3415ab00"), looks := false }, kinds := [], alts := [], laidByText := true, laidKinds := [.data, .pinned], laidTests := true, laidLooks := .later }
def UtfStepsUptoCardSaid : Prop := Claim7.holds Tryd.pinned (.plain (OpenSpec.upto utfStepsSpec)) utfStepsUptoCard

/-- THE SECOND FORM's CARD OF 'incipitlaw08.UtfJoins'. -/
def utfJoinsUptoCard : Claim7 := { stood := { row := utfJoinsUptoRow, standIns := [], harness := (true, "0e012193b520482b7a135b5d7eddadf11c66c299097cd6404d494e1f3415ab00"), looks := false }, kinds := [], alts := [], laidByText := true, laidKinds := [.data, .pinned], laidTests := true, laidLooks := .later }
def UtfJoinsUptoCardSaid : Prop := Claim7.holds Tryd.pinned (.plain (OpenSpec.upto utfJoinsSpec)) utfJoinsUptoCard

/-- THE SECOND FORM's CARD OF 'incipitlaw08.UtfSmall'. -/
def utfSmallUptoCard : Claim7 := { stood := { row := utfSmallUptoRow, standIns := [], harness := (true, "0e012193b520482b7a135b5d7eddadf11c66c299097cd6404d494e1f3415ab00"), looks := false }, kinds := [], alts := [], laidByText := true, laidKinds := [.data, .pinned], laidTests := true, laidLooks := .later }
def UtfSmallUptoCardSaid : Prop := Claim7.holds Tryd.pinned (.plain (OpenSpec.upto utfSmallSpec)) utfSmallUptoCard

/-- THE SECOND FORM's CARD OF 'incipitlaw08.UtfFault'. -/
def utfFaultUptoCard : Claim7 := { stood := { row := utfFaultUptoRow, standIns := [], harness := (true, "0e012193b520482b7a135b5d7eddadf11c66c299097cd6404d494e1f3415ab00"), looks := false }, kinds := [], alts := [], laidByText := true, laidKinds := [.data, .pinned], laidTests := true, laidLooks := .later }
def UtfFaultUptoCardSaid : Prop := Claim7.holds Tryd.pinned (.plain (OpenSpec.upto utfFaultSpec)) utfFaultUptoCard
end Rows
end Go.Proofs.YtoeapiooombomaaDoor
