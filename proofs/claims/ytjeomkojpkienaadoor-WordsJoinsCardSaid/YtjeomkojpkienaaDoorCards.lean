/-
  DERIVED. GIVEN WITH THE SEED: THE CARDS: each row of YtjeomkojpkienaaDoorRows.lean that lists a variable, with what it lists TIED to the program's text (the seventh form; the later family's looks); each row that meets fmt, with fmt's text TOLD by the authors' own Lean function (tested against real Go, not proved from fmt's source: count such statements apart). THE CARD IS WHAT COUNTS. Prove the row's statement (the work); the ties are given (YtjeomkojpkienaaDoorTie.lean); close each card by the builder's one call (the guide's Derived/Test/ToyasCard.lean, 'card_holds'). Laid BY PROGRAM, IN A SANDBOX (cutbox-door.mjs). By AI agents, Wed Nov 11 2026. No macro, syntax, notation, axiom, sorry.
-/
import Derived.Test.YtjeomkojpkienaaDoorRows
import GoSem.ClaimSeven
namespace Go.Proofs.YtjeomkojpkienaaDoor
namespace Rows

/-- THE TIED CARD OF 'incipitlaw09.WordsTells'. -/
def wordsTellsCard : Claim7 := { stood := { row := wordsTellsRow, standIns := [], harness := (true, "b0bd2ed138bc67c7d6caf0d2836474b7db6b7c98e982515564cb8d768a6c0b2b"), looks := false }, kinds := [], alts := [], laidByText := true, laidKinds := [.data, .pinned], laidTests := true, laidLooks := .later }
def WordsTellsCardSaid : Prop := Claim7.holds Tryd.pinned (.plain (OpenSpec.ofChange wordsTellsSpec)) wordsTellsCard

/-- THE TIED CARD OF 'incipitlaw09.WordsOne'. -/
def wordsOneCard : Claim7 := { stood := { row := wordsOneRow, standIns := [], harness := (true, "b0bd2ed138bc67c7d6caf0d2836474b7db6b7c98e982515564cb8d768a6c0b2b"), looks := false }, kinds := [], alts := [], laidByText := true, laidKinds := [.data, .pinned], laidTests := true, laidLooks := .later }
def WordsOneCardSaid : Prop := Claim7.holds Tryd.pinned (.plain (OpenSpec.ofChange wordsOneSpec)) wordsOneCard

/-- THE TIED CARD OF 'incipitlaw09.WordsParted'. -/
def wordsPartedCard : Claim7 := { stood := { row := wordsPartedRow, standIns := [], harness := (true, "b0bd2ed138bc67c7d6caf0d2836474b7db6b7c98e982515564cb8d768a6c0b2b"), looks := false }, kinds := [], alts := [], laidByText := true, laidKinds := [.data, .pinned], laidTests := true, laidLooks := .later }
def WordsPartedCardSaid : Prop := Claim7.holds Tryd.pinned (.plain (OpenSpec.ofChange wordsPartedSpec)) wordsPartedCard

/-- THE TIED CARD OF 'incipitlaw09.WordsLeft'. -/
def wordsLeftCard : Claim7 := { stood := { row := wordsLeftRow, standIns := [], harness := (true, "b0bd2ed138bc67c7d6caf0d2836474b7db6b7c98e982515564cb8d768a6c0b2b"), looks := false }, kinds := [], alts := [], laidByText := true, laidKinds := [.data, .pinned], laidTests := true, laidLooks := .later }
def WordsLeftCardSaid : Prop := Claim7.holds Tryd.pinned (.plain (OpenSpec.ofChange wordsLeftSpec)) wordsLeftCard

/-- THE TIED CARD OF 'incipitlaw09.WordsJoins'. -/
def wordsJoinsCard : Claim7 := { stood := { row := wordsJoinsRow, standIns := [], harness := (true, "b0bd2ed138bc67c7d6caf0d2836474b7db6b7c98e982515564cb8d768a6c0b2b"), looks := false }, kinds := [], alts := [], laidByText := true, laidKinds := [.data, .pinned], laidTests := true, laidLooks := .later }
def WordsJoinsCardSaid : Prop := Claim7.holds Tryd.pinned (.plain (OpenSpec.ofChange wordsJoinsSpec)) wordsJoinsCard

/-- THE TIED CARD OF 'incipitlaw09.WordsStops'. -/
def wordsStopsCard : Claim7 := { stood := { row := wordsStopsRow, standIns := [], harness := (true, "b0bd2ed138bc67c7d6caf0d2836474b7db6b7c98e982515564cb8d768a6c0b2b"), looks := false }, kinds := [], alts := [], laidByText := true, laidKinds := [.data, .pinned], laidTests := true, laidLooks := .later }
def WordsStopsCardSaid : Prop := Claim7.holds Tryd.pinned (.plain (OpenSpec.ofChange wordsStopsSpec)) wordsStopsCard

/-- THE SECOND FORM's CARD OF 'incipitlaw09.WordsTells'. -/
def wordsTellsUptoCard : Claim7 := { stood := { row := wordsTellsUptoRow, standIns := [], harness := (true, "b0bd2ed138bc67c7d6caf0d2836474b7db6b7c98e982515564cb8d768a6c0b2b"), looks := false }, kinds := [], alts := [], laidByText := true, laidKinds := [.data, .pinned], laidTests := true, laidLooks := .later }
def WordsTellsUptoCardSaid : Prop := Claim7.holds Tryd.pinned (.plain (OpenSpec.upto wordsTellsSpec)) wordsTellsUptoCard

/-- THE SECOND FORM's CARD OF 'incipitlaw09.WordsOne'. -/
def wordsOneUptoCard : Claim7 := { stood := { row := wordsOneUptoRow, standIns := [], harness := (true, "b0bd2ed138bc67c7d6caf0d2836474b7db6b7c98e982515564cb8d768a6c0b2b"), looks := false }, kinds := [], alts := [], laidByText := true, laidKinds := [.data, .pinned], laidTests := true, laidLooks := .later }
def WordsOneUptoCardSaid : Prop := Claim7.holds Tryd.pinned (.plain (OpenSpec.upto wordsOneSpec)) wordsOneUptoCard

/-- THE SECOND FORM's CARD OF 'incipitlaw09.WordsParted'. -/
def wordsPartedUptoCard : Claim7 := { stood := { row := wordsPartedUptoRow, standIns := [], harness := (true, "b0bd2ed138bc67c7d6caf0d2836474b7db6b7c98e982515564cb8d768a6c0b2b"), looks := false }, kinds := [], alts := [], laidByText := true, laidKinds := [.data, .pinned], laidTests := true, laidLooks := .later }
def WordsPartedUptoCardSaid : Prop := Claim7.holds Tryd.pinned (.plain (OpenSpec.upto wordsPartedSpec)) wordsPartedUptoCard

/-- THE SECOND FORM's CARD OF 'incipitlaw09.WordsLeft'. -/
def wordsLeftUptoCard : Claim7 := { stood := { row := wordsLeftUptoRow, standIns := [], harness := (true, "b0bd2ed138bc67c7d6caf0d2836474b7db6b7c98e982515564cb8d768a6c0b2b"), looks := false }, kinds := [], alts := [], laidByText := true, laidKinds := [.data, .pinned], laidTests := true, laidLooks := .later }
def WordsLeftUptoCardSaid : Prop := Claim7.holds Tryd.pinned (.plain (OpenSpec.upto wordsLeftSpec)) wordsLeftUptoCard

/-- THE SECOND FORM's CARD OF 'incipitlaw09.WordsJoins'. -/
def wordsJoinsUptoCard : Claim7 := { stood := { row := wordsJoinsUptoRow, standIns := [], harness := (true, "b0bd2ed138bc67c7d6caf0d2836474b7db6b7c98e982515564cb8d768a6c0b2b"), looks := false }, kinds := [], alts := [], laidByText := true, laidKinds := [.data, .pinned], laidTests := true, laidLooks := .later }
def WordsJoinsUptoCardSaid : Prop := Claim7.holds Tryd.pinned (.plain (OpenSpec.upto wordsJoinsSpec)) wordsJoinsUptoCard

/-- THE SECOND FORM's CARD OF 'incipitlaw09.WordsStops'. -/
def wordsStopsUptoCard : Claim7 := { stood := { row := wordsStopsUptoRow, standIns := [], harness := (true, "b0bd2ed138bc67c7d6caf0d2836474b7db6b7c98e982515564cb8d768a6c0b2b"), looks := false }, kinds := [], alts := [], laidByText := true, laidKinds := [.data, .pinned], laidTests := true, laidLooks := .later }
def WordsStopsUptoCardSaid : Prop := Claim7.holds Tryd.pinned (.plain (OpenSpec.upto wordsStopsSpec)) wordsStopsUptoCard
end Rows
end Go.Proofs.YtjeomkojpkienaaDoor
