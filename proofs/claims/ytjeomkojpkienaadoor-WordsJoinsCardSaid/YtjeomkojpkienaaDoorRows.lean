/-
  NARROWER THAN 'FOR EVERY INPUT', by the rows' own cells (each row's printed sentence says how): WordsTells: laid · WordsOne: laid · WordsParted: laid · WordsLeft: laid · WordsJoins: laid · WordsStops: laid.
  DERIVED. THE GIVEN ROWS OF THIS SEAT. 6 by the template 'for every input the law returns true; each argument reads behind the call as it read before'; 0 by the template 'total and deterministic' (their statements: YtjeomkojpkienaaDoorTotals.lean).
  GIVEN WITH THE SEED: the statements are not yours to turn. If you find one false, say at which input.
  Laid BY PROGRAM, IN A SANDBOX (cutbox-rows.mjs): the forced cells as the released guide's own fill.sh prints them over the translation 7e609fd9a74786a2… (all of the seat's roots in one cut). By AI agents, Wed Nov 11 2026. No macro, syntax, notation, axiom, sorry.
-/
import Derived.Test.YtjeomkojpkienaaDoorChecked
import GoSem.PinnedTables
import GoSem.Claim
import GoSem.ClaimJoined
import GoSem.ClaimMapViews
import Derived.JoinedTies
import Derived.KernelRfl
namespace Go.Proofs.YtjeomkojpkienaaDoor
/- THE CELL 'sum', in the pinned program and in every row, IS THE sha256 OF THE DUMP (.gsa) THAT YtjeomkojpkienaaDoorProg.lean LOADS. Nothing in Lean hashes anything: it is a label: what it is worth is what the hold of that sum in a sandbox is worth. -/
noncomputable def Tryd.pinned : Pinned := { name := "ytjeomkojpkienaadoor", sum := "7e609fd9a74786a23c536ab8df342c84e25612e63e351e3f41f13f7f7ffe9ff8", checked := Tryd.checked }
namespace Rows
def none {H : Type} : Left H := { results := [], args := [] }

/- WHAT THE LISTED PACKAGE-LEVEL VARIABLES READ AS WHEN THE CALL BEGINS. Each datum BY PROGRAM (the guide's laid-datum.mjs) off the statement by which the dump's own 'gosem.cut.vars' lays the variable. In a bare row this is a premise. The card (YtjeomkojpkienaaDoorCards.lean) ties it to the program's text. -/
def laid_unicode_utf8_acceptRanges {H : Type} : DataW H := .agg [.agg [.lit (.int .u8 128), .lit (.int .u8 191)], .agg [.lit (.int .u8 160), .lit (.int .u8 191)], .agg [.lit (.int .u8 128), .lit (.int .u8 159)], .agg [.lit (.int .u8 144), .lit (.int .u8 191)], .agg [.lit (.int .u8 128), .lit (.int .u8 143)], .agg [.lit (.int .u8 0), .lit (.int .u8 0)], .agg [.lit (.int .u8 0), .lit (.int .u8 0)], .agg [.lit (.int .u8 0), .lit (.int .u8 0)], .agg [.lit (.int .u8 0), .lit (.int .u8 0)], .agg [.lit (.int .u8 0), .lit (.int .u8 0)], .agg [.lit (.int .u8 0), .lit (.int .u8 0)], .agg [.lit (.int .u8 0), .lit (.int .u8 0)], .agg [.lit (.int .u8 0), .lit (.int .u8 0)], .agg [.lit (.int .u8 0), .lit (.int .u8 0)], .agg [.lit (.int .u8 0), .lit (.int .u8 0)], .agg [.lit (.int .u8 0), .lit (.int .u8 0)]]
/-- One of Go's own tables, pinned by name: the form's constant. -/
def laid_unicode_utf8_first : DataW Unit := Go.Pinned.utf8First

/-- 'incipitlaw09.WordsTells': WHATEVER THE INPUT: true; the input reads as it did. -/
def wordsTellsSpec : ChangeSpec := { name := "wordsTells", fn := fun _ => fun
  | [d1, d2] => { results := [.lit (.bool true)], args := [d1, d2] }
  | _ => none }
def wordsTellsRow : OpenClaim := { program := "ytjeomkojpkienaadoor", sum := "7e609fd9a74786a23c536ab8df342c84e25612e63e351e3f41f13f7f7ffe9ff8", func := "incipit/incipitlaw09.WordsTells", spec := "wordsTells", unfollowed := true, recurses := true, named := ["unicode/utf8.first", "unicode/utf8.acceptRanges"], plainKeys := false, apart := false, laid := [("unicode/utf8.acceptRanges", laid_unicode_utf8_acceptRanges), ("unicode/utf8.first", laid_unicode_utf8_first)] }
def WordsTellsSaid : Prop := wordsTellsRow.holds Tryd.pinned (OpenSpec.ofChange wordsTellsSpec)

/-- ITS FALSE NEIGHBOUR: 'it returns false'. Refute it at one input. -/
def wordsTellsWrong : ChangeSpec := { name := "wordsTells", fn := fun _ => fun
  | [d1, d2] => { results := [.lit (.bool false)], args := [d1, d2] }
  | _ => none }
def WordsTellsWrongFalsely : Prop := wordsTellsRow.holds Tryd.pinned (OpenSpec.ofChange wordsTellsWrong)

/-- 'incipitlaw09.WordsOne': WHATEVER THE INPUT: true; the input reads as it did. -/
def wordsOneSpec : ChangeSpec := { name := "wordsOne", fn := fun _ => fun
  | [d1, d2] => { results := [.lit (.bool true)], args := [d1, d2] }
  | _ => none }
def wordsOneRow : OpenClaim := { program := "ytjeomkojpkienaadoor", sum := "7e609fd9a74786a23c536ab8df342c84e25612e63e351e3f41f13f7f7ffe9ff8", func := "incipit/incipitlaw09.WordsOne", spec := "wordsOne", unfollowed := true, recurses := true, named := ["unicode/utf8.first", "unicode/utf8.acceptRanges"], plainKeys := false, apart := false, laid := [("unicode/utf8.acceptRanges", laid_unicode_utf8_acceptRanges), ("unicode/utf8.first", laid_unicode_utf8_first)] }
def WordsOneSaid : Prop := wordsOneRow.holds Tryd.pinned (OpenSpec.ofChange wordsOneSpec)

/-- ITS FALSE NEIGHBOUR: 'it returns false'. Refute it at one input. -/
def wordsOneWrong : ChangeSpec := { name := "wordsOne", fn := fun _ => fun
  | [d1, d2] => { results := [.lit (.bool false)], args := [d1, d2] }
  | _ => none }
def WordsOneWrongFalsely : Prop := wordsOneRow.holds Tryd.pinned (OpenSpec.ofChange wordsOneWrong)

/-- 'incipitlaw09.WordsParted': WHATEVER THE INPUT: true; the input reads as it did. -/
def wordsPartedSpec : ChangeSpec := { name := "wordsParted", fn := fun _ => fun
  | [d1, d2] => { results := [.lit (.bool true)], args := [d1, d2] }
  | _ => none }
def wordsPartedRow : OpenClaim := { program := "ytjeomkojpkienaadoor", sum := "7e609fd9a74786a23c536ab8df342c84e25612e63e351e3f41f13f7f7ffe9ff8", func := "incipit/incipitlaw09.WordsParted", spec := "wordsParted", unfollowed := true, recurses := true, named := ["unicode/utf8.first", "unicode/utf8.acceptRanges"], plainKeys := false, apart := false, laid := [("unicode/utf8.acceptRanges", laid_unicode_utf8_acceptRanges), ("unicode/utf8.first", laid_unicode_utf8_first)] }
def WordsPartedSaid : Prop := wordsPartedRow.holds Tryd.pinned (OpenSpec.ofChange wordsPartedSpec)

/-- ITS FALSE NEIGHBOUR: 'it returns false'. Refute it at one input. -/
def wordsPartedWrong : ChangeSpec := { name := "wordsParted", fn := fun _ => fun
  | [d1, d2] => { results := [.lit (.bool false)], args := [d1, d2] }
  | _ => none }
def WordsPartedWrongFalsely : Prop := wordsPartedRow.holds Tryd.pinned (OpenSpec.ofChange wordsPartedWrong)

/-- 'incipitlaw09.WordsLeft': WHATEVER THE INPUT: true; the input reads as it did. -/
def wordsLeftSpec : ChangeSpec := { name := "wordsLeft", fn := fun _ => fun
  | [d1, d2] => { results := [.lit (.bool true)], args := [d1, d2] }
  | _ => none }
def wordsLeftRow : OpenClaim := { program := "ytjeomkojpkienaadoor", sum := "7e609fd9a74786a23c536ab8df342c84e25612e63e351e3f41f13f7f7ffe9ff8", func := "incipit/incipitlaw09.WordsLeft", spec := "wordsLeft", unfollowed := true, recurses := true, named := ["unicode/utf8.first", "unicode/utf8.acceptRanges"], plainKeys := false, apart := false, laid := [("unicode/utf8.acceptRanges", laid_unicode_utf8_acceptRanges), ("unicode/utf8.first", laid_unicode_utf8_first)] }
def WordsLeftSaid : Prop := wordsLeftRow.holds Tryd.pinned (OpenSpec.ofChange wordsLeftSpec)

/-- ITS FALSE NEIGHBOUR: 'it returns false'. Refute it at one input. -/
def wordsLeftWrong : ChangeSpec := { name := "wordsLeft", fn := fun _ => fun
  | [d1, d2] => { results := [.lit (.bool false)], args := [d1, d2] }
  | _ => none }
def WordsLeftWrongFalsely : Prop := wordsLeftRow.holds Tryd.pinned (OpenSpec.ofChange wordsLeftWrong)

/-- 'incipitlaw09.WordsJoins': WHATEVER THE INPUT: true; the input reads as it did. -/
def wordsJoinsSpec : ChangeSpec := { name := "wordsJoins", fn := fun _ => fun
  | [d1, d2] => { results := [.lit (.bool true)], args := [d1, d2] }
  | _ => none }
def wordsJoinsRow : OpenClaim := { program := "ytjeomkojpkienaadoor", sum := "7e609fd9a74786a23c536ab8df342c84e25612e63e351e3f41f13f7f7ffe9ff8", func := "incipit/incipitlaw09.WordsJoins", spec := "wordsJoins", unfollowed := true, recurses := true, named := ["unicode/utf8.first", "unicode/utf8.acceptRanges"], plainKeys := false, apart := false, laid := [("unicode/utf8.acceptRanges", laid_unicode_utf8_acceptRanges), ("unicode/utf8.first", laid_unicode_utf8_first)] }
def WordsJoinsSaid : Prop := wordsJoinsRow.holds Tryd.pinned (OpenSpec.ofChange wordsJoinsSpec)

/-- ITS FALSE NEIGHBOUR: 'it returns false'. Refute it at one input. -/
def wordsJoinsWrong : ChangeSpec := { name := "wordsJoins", fn := fun _ => fun
  | [d1, d2] => { results := [.lit (.bool false)], args := [d1, d2] }
  | _ => none }
def WordsJoinsWrongFalsely : Prop := wordsJoinsRow.holds Tryd.pinned (OpenSpec.ofChange wordsJoinsWrong)

/-- 'incipitlaw09.WordsStops': WHATEVER THE INPUT: true; the input reads as it did. -/
def wordsStopsSpec : ChangeSpec := { name := "wordsStops", fn := fun _ => fun
  | [d] => { results := [.lit (.bool true)], args := [d] }
  | _ => none }
def wordsStopsRow : OpenClaim := { program := "ytjeomkojpkienaadoor", sum := "7e609fd9a74786a23c536ab8df342c84e25612e63e351e3f41f13f7f7ffe9ff8", func := "incipit/incipitlaw09.WordsStops", spec := "wordsStops", unfollowed := true, recurses := true, named := ["unicode/utf8.first", "unicode/utf8.acceptRanges"], plainKeys := false, apart := false, laid := [("unicode/utf8.acceptRanges", laid_unicode_utf8_acceptRanges), ("unicode/utf8.first", laid_unicode_utf8_first)] }
def WordsStopsSaid : Prop := wordsStopsRow.holds Tryd.pinned (OpenSpec.ofChange wordsStopsSpec)

/-- ITS FALSE NEIGHBOUR: 'it returns false'. Refute it at one input. -/
def wordsStopsWrong : ChangeSpec := { name := "wordsStops", fn := fun _ => fun
  | [d] => { results := [.lit (.bool false)], args := [d] }
  | _ => none }
def WordsStopsWrongFalsely : Prop := wordsStopsRow.holds Tryd.pinned (OpenSpec.ofChange wordsStopsWrong)

/- THE SECOND FORM. 'bulk': how many values and letters a reading holds, each counted each time it is reached (what is shared counts as often as it is met; a slice's spare places count too). A statement '..UptoSaid' is the law's where the arguments, and the package variables that the reading takes, are together of bulk at most 1048576: NARROWER than '..Said'. Prove '..Said' where nothing that the law and all that it calls make is longer than what came in: it says more and counts as full. Else prove '..UptoSaid'. A law counts once. -/
mutual
def uptoBulk {H : Type} : DataW H → Nat
  | .lit (.string bytes) => bytes.length + 1
  | .lit _ => 1
  | .nil => 1
  | .ptr d => uptoBulk d + 1
  | .slice elems spare => uptoBulkAll elems + uptoBulkAll spare + 1
  | .agg parts => uptoBulkAll parts + 1
  | .iface _ d => uptoBulk d + 1
  | .map entries => uptoBulkEntries entries + 1
  | .held _ => 1
def uptoBulkAll {H : Type} : List (DataW H) → Nat
  | [] => 0
  | d :: r => uptoBulk d + uptoBulkAll r
def uptoBulkEntries {H : Type} : List (Lit × DataW H) → Nat
  | [] => 0
  | x :: r => uptoBulkEntry x + uptoBulkEntries r
def uptoBulkEntry {H : Type} : Lit × DataW H → Nat
  | (.string bytes, d) => bytes.length + uptoBulk d + 1
  | (_, d) => uptoBulk d + 1
 end
def uptoSmall : (H : Type) → List (DataW H) → Bool := fun _ ds => decide (uptoBulkAll ds ≤ 1048576)
def OpenSpec.upto (s : _root_.Go.ChangeSpec) : _root_.Go.OpenSpec := { _root_.Go.OpenSpec.ofChange s with cond := some uptoSmall }

/-- 'incipitlaw09.WordsTells', WHERE WHAT IT READS IS OF BULK AT MOST 1048576: true; the input reads as it did. -/
def wordsTellsUptoRow : OpenClaim := { program := "ytjeomkojpkienaadoor", sum := "7e609fd9a74786a23c536ab8df342c84e25612e63e351e3f41f13f7f7ffe9ff8", func := "incipit/incipitlaw09.WordsTells", spec := "wordsTells", unfollowed := true, recurses := true, named := ["unicode/utf8.first", "unicode/utf8.acceptRanges"], plainKeys := false, apart := false, laid := [("unicode/utf8.acceptRanges", laid_unicode_utf8_acceptRanges), ("unicode/utf8.first", laid_unicode_utf8_first)], narrowed := true }
def WordsTellsUptoSaid : Prop := wordsTellsUptoRow.holds Tryd.pinned (OpenSpec.upto wordsTellsSpec)

/-- 'incipitlaw09.WordsOne', WHERE WHAT IT READS IS OF BULK AT MOST 1048576: true; the input reads as it did. -/
def wordsOneUptoRow : OpenClaim := { program := "ytjeomkojpkienaadoor", sum := "7e609fd9a74786a23c536ab8df342c84e25612e63e351e3f41f13f7f7ffe9ff8", func := "incipit/incipitlaw09.WordsOne", spec := "wordsOne", unfollowed := true, recurses := true, named := ["unicode/utf8.first", "unicode/utf8.acceptRanges"], plainKeys := false, apart := false, laid := [("unicode/utf8.acceptRanges", laid_unicode_utf8_acceptRanges), ("unicode/utf8.first", laid_unicode_utf8_first)], narrowed := true }
def WordsOneUptoSaid : Prop := wordsOneUptoRow.holds Tryd.pinned (OpenSpec.upto wordsOneSpec)

/-- 'incipitlaw09.WordsParted', WHERE WHAT IT READS IS OF BULK AT MOST 1048576: true; the input reads as it did. -/
def wordsPartedUptoRow : OpenClaim := { program := "ytjeomkojpkienaadoor", sum := "7e609fd9a74786a23c536ab8df342c84e25612e63e351e3f41f13f7f7ffe9ff8", func := "incipit/incipitlaw09.WordsParted", spec := "wordsParted", unfollowed := true, recurses := true, named := ["unicode/utf8.first", "unicode/utf8.acceptRanges"], plainKeys := false, apart := false, laid := [("unicode/utf8.acceptRanges", laid_unicode_utf8_acceptRanges), ("unicode/utf8.first", laid_unicode_utf8_first)], narrowed := true }
def WordsPartedUptoSaid : Prop := wordsPartedUptoRow.holds Tryd.pinned (OpenSpec.upto wordsPartedSpec)

/-- 'incipitlaw09.WordsLeft', WHERE WHAT IT READS IS OF BULK AT MOST 1048576: true; the input reads as it did. -/
def wordsLeftUptoRow : OpenClaim := { program := "ytjeomkojpkienaadoor", sum := "7e609fd9a74786a23c536ab8df342c84e25612e63e351e3f41f13f7f7ffe9ff8", func := "incipit/incipitlaw09.WordsLeft", spec := "wordsLeft", unfollowed := true, recurses := true, named := ["unicode/utf8.first", "unicode/utf8.acceptRanges"], plainKeys := false, apart := false, laid := [("unicode/utf8.acceptRanges", laid_unicode_utf8_acceptRanges), ("unicode/utf8.first", laid_unicode_utf8_first)], narrowed := true }
def WordsLeftUptoSaid : Prop := wordsLeftUptoRow.holds Tryd.pinned (OpenSpec.upto wordsLeftSpec)

/-- 'incipitlaw09.WordsJoins', WHERE WHAT IT READS IS OF BULK AT MOST 1048576: true; the input reads as it did. -/
def wordsJoinsUptoRow : OpenClaim := { program := "ytjeomkojpkienaadoor", sum := "7e609fd9a74786a23c536ab8df342c84e25612e63e351e3f41f13f7f7ffe9ff8", func := "incipit/incipitlaw09.WordsJoins", spec := "wordsJoins", unfollowed := true, recurses := true, named := ["unicode/utf8.first", "unicode/utf8.acceptRanges"], plainKeys := false, apart := false, laid := [("unicode/utf8.acceptRanges", laid_unicode_utf8_acceptRanges), ("unicode/utf8.first", laid_unicode_utf8_first)], narrowed := true }
def WordsJoinsUptoSaid : Prop := wordsJoinsUptoRow.holds Tryd.pinned (OpenSpec.upto wordsJoinsSpec)

/-- 'incipitlaw09.WordsStops', WHERE WHAT IT READS IS OF BULK AT MOST 1048576: true; the input reads as it did. -/
def wordsStopsUptoRow : OpenClaim := { program := "ytjeomkojpkienaadoor", sum := "7e609fd9a74786a23c536ab8df342c84e25612e63e351e3f41f13f7f7ffe9ff8", func := "incipit/incipitlaw09.WordsStops", spec := "wordsStops", unfollowed := true, recurses := true, named := ["unicode/utf8.first", "unicode/utf8.acceptRanges"], plainKeys := false, apart := false, laid := [("unicode/utf8.acceptRanges", laid_unicode_utf8_acceptRanges), ("unicode/utf8.first", laid_unicode_utf8_first)], narrowed := true }
def WordsStopsUptoSaid : Prop := wordsStopsUptoRow.holds Tryd.pinned (OpenSpec.upto wordsStopsSpec)

end Rows
end Go.Proofs.YtjeomkojpkienaaDoor
