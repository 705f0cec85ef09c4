/-
  NARROWER THAN 'FOR EVERY INPUT', by the rows' own cells (each row's printed sentence says how): CountHolds: laid · CountSound: laid · CountDecides: laid · CountStrong: laid · CountRenamed: laid · CountMatches: laid · CountTells: laid · ArithHolds: laid · ArithSound: laid · ArithDecides: laid · ArithStrong: laid · ArithRenamed: laid · ArithElements: laid · ArithTurns: laid.
  DERIVED. THE GIVEN ROWS OF THIS SEAT. 14 by the template 'for every input the law returns true; each argument reads behind the call as it read before'; 0 by the template 'total and deterministic' (their statements: YtkdedpofghlmoaaGreatDoorTotals.lean).
  GIVEN WITH THE SEED: the statements are not yours to turn. If you find one false, say at which input.
  Laid BY PROGRAM, IN A SANDBOX (cutbox-rows.mjs): the forced cells as the released guide's own fill.sh prints them over the translation 20c7cd29e57366aa… (all of the seat's roots in one cut). By AI agents, Wed Nov 11 2026. No macro, syntax, notation, axiom, sorry.
-/
import Derived.Test.YtkdedpofghlmoaaGreatDoorChecked
import GoSem.PinnedTables
import GoSem.Claim
import GoSem.ClaimJoined
import GoSem.ClaimMapViews
import Derived.JoinedTies
import Derived.KernelRfl
namespace Go.Proofs.YtkdedpofghlmoaaGreatDoor
/- THE CELL 'sum', in the pinned program and in every row, IS THE sha256 OF THE DUMP (.gsa) THAT YtkdedpofghlmoaaGreatDoorProg.lean LOADS. Nothing in Lean hashes anything: it is a label: what it is worth is what the hold of that sum in a sandbox is worth. -/
noncomputable def Tryz.pinned : Pinned := { name := "ytkdedpofghlmoaagreatdoor", sum := "20c7cd29e57366aae45de09664bdae7a0ec0ae0213935f76b0d10a161a382117", checked := Tryz.checked }
namespace Rows
def none {H : Type} : Left H := { results := [], args := [] }

/- WHAT THE LISTED PACKAGE-LEVEL VARIABLES READ AS WHEN THE CALL BEGINS. Each datum BY PROGRAM (the guide's laid-datum.mjs) off the statement by which the dump's own 'gosem.cut.vars' lays the variable. In a bare row this is a premise. The card (YtkdedpofghlmoaaGreatDoorCards.lean) ties it to the program's text. -/
def laid_unicode_utf8_acceptRanges {H : Type} : DataW H := .agg [.agg [.lit (.int .u8 128), .lit (.int .u8 191)], .agg [.lit (.int .u8 160), .lit (.int .u8 191)], .agg [.lit (.int .u8 128), .lit (.int .u8 159)], .agg [.lit (.int .u8 144), .lit (.int .u8 191)], .agg [.lit (.int .u8 128), .lit (.int .u8 143)], .agg [.lit (.int .u8 0), .lit (.int .u8 0)], .agg [.lit (.int .u8 0), .lit (.int .u8 0)], .agg [.lit (.int .u8 0), .lit (.int .u8 0)], .agg [.lit (.int .u8 0), .lit (.int .u8 0)], .agg [.lit (.int .u8 0), .lit (.int .u8 0)], .agg [.lit (.int .u8 0), .lit (.int .u8 0)], .agg [.lit (.int .u8 0), .lit (.int .u8 0)], .agg [.lit (.int .u8 0), .lit (.int .u8 0)], .agg [.lit (.int .u8 0), .lit (.int .u8 0)], .agg [.lit (.int .u8 0), .lit (.int .u8 0)], .agg [.lit (.int .u8 0), .lit (.int .u8 0)]]
/-- One of Go's own tables, pinned by name: the form's constant. -/
def laid_unicode_utf8_first : DataW Unit := Go.Pinned.utf8First

/-- 'jigsawlaw11.CountHolds': WHATEVER THE INPUT: true; the input reads as it did. -/
def countHoldsSpec : ChangeSpec := { name := "countHolds", fn := fun _ => fun
  | [d1, d2] => { results := [.lit (.bool true)], args := [d1, d2] }
  | _ => none }
def countHoldsRow : OpenClaim := { program := "ytkdedpofghlmoaagreatdoor", sum := "20c7cd29e57366aae45de09664bdae7a0ec0ae0213935f76b0d10a161a382117", func := "jigsaw/jigsawlaw11.CountHolds", spec := "countHolds", inPlace := ["internal/bytealg.CountString", "internal/bytealg.IndexByteString", "internal/bytealg.IndexString"], unfollowed := true, recurses := true, named := ["unicode/utf8.first", "unicode/utf8.acceptRanges", "internal/bytealg.MaxLen"], apart := false, laid := [("unicode/utf8.acceptRanges", laid_unicode_utf8_acceptRanges), ("unicode/utf8.first", laid_unicode_utf8_first)] }
def CountHoldsSaid : Prop := countHoldsRow.holds Tryz.pinned (OpenSpec.ofChange countHoldsSpec)

/-- ITS FALSE NEIGHBOUR: 'it returns false'. Refute it at one input. -/
def countHoldsWrong : ChangeSpec := { name := "countHolds", fn := fun _ => fun
  | [d1, d2] => { results := [.lit (.bool false)], args := [d1, d2] }
  | _ => none }
def CountHoldsWrongFalsely : Prop := countHoldsRow.holds Tryz.pinned (OpenSpec.ofChange countHoldsWrong)

/-- 'jigsawlaw11.CountSound': WHATEVER THE INPUT: true; the input reads as it did. -/
def countSoundSpec : ChangeSpec := { name := "countSound", fn := fun _ => fun
  | [d1, d2] => { results := [.lit (.bool true)], args := [d1, d2] }
  | _ => none }
def countSoundRow : OpenClaim := { program := "ytkdedpofghlmoaagreatdoor", sum := "20c7cd29e57366aae45de09664bdae7a0ec0ae0213935f76b0d10a161a382117", func := "jigsaw/jigsawlaw11.CountSound", spec := "countSound", inPlace := ["internal/bytealg.CountString", "internal/bytealg.IndexByteString", "internal/bytealg.IndexString"], unfollowed := true, recurses := true, named := ["unicode/utf8.first", "unicode/utf8.acceptRanges", "internal/bytealg.MaxLen"], apart := false, laid := [("unicode/utf8.acceptRanges", laid_unicode_utf8_acceptRanges), ("unicode/utf8.first", laid_unicode_utf8_first)] }
def CountSoundSaid : Prop := countSoundRow.holds Tryz.pinned (OpenSpec.ofChange countSoundSpec)

/-- ITS FALSE NEIGHBOUR: 'it returns false'. Refute it at one input. -/
def countSoundWrong : ChangeSpec := { name := "countSound", fn := fun _ => fun
  | [d1, d2] => { results := [.lit (.bool false)], args := [d1, d2] }
  | _ => none }
def CountSoundWrongFalsely : Prop := countSoundRow.holds Tryz.pinned (OpenSpec.ofChange countSoundWrong)

/-- 'jigsawlaw11.CountDecides': WHATEVER THE INPUT: true; the input reads as it did. -/
def countDecidesSpec : ChangeSpec := { name := "countDecides", fn := fun _ => fun
  | [d1, d2] => { results := [.lit (.bool true)], args := [d1, d2] }
  | _ => none }
def countDecidesRow : OpenClaim := { program := "ytkdedpofghlmoaagreatdoor", sum := "20c7cd29e57366aae45de09664bdae7a0ec0ae0213935f76b0d10a161a382117", func := "jigsaw/jigsawlaw11.CountDecides", spec := "countDecides", inPlace := ["internal/bytealg.CountString", "internal/bytealg.IndexByteString", "internal/bytealg.IndexString"], unfollowed := true, recurses := true, named := ["unicode/utf8.first", "unicode/utf8.acceptRanges", "internal/bytealg.MaxLen"], apart := false, laid := [("unicode/utf8.acceptRanges", laid_unicode_utf8_acceptRanges), ("unicode/utf8.first", laid_unicode_utf8_first)] }
def CountDecidesSaid : Prop := countDecidesRow.holds Tryz.pinned (OpenSpec.ofChange countDecidesSpec)

/-- ITS FALSE NEIGHBOUR: 'it returns false'. Refute it at one input. -/
def countDecidesWrong : ChangeSpec := { name := "countDecides", fn := fun _ => fun
  | [d1, d2] => { results := [.lit (.bool false)], args := [d1, d2] }
  | _ => none }
def CountDecidesWrongFalsely : Prop := countDecidesRow.holds Tryz.pinned (OpenSpec.ofChange countDecidesWrong)

/-- 'jigsawlaw11.CountStrong': WHATEVER THE INPUT: true; the input reads as it did. -/
def countStrongSpec : ChangeSpec := { name := "countStrong", fn := fun _ => fun
  | [d1, d2, d3, d4] => { results := [.lit (.bool true)], args := [d1, d2, d3, d4] }
  | _ => none }
def countStrongRow : OpenClaim := { program := "ytkdedpofghlmoaagreatdoor", sum := "20c7cd29e57366aae45de09664bdae7a0ec0ae0213935f76b0d10a161a382117", func := "jigsaw/jigsawlaw11.CountStrong", spec := "countStrong", inPlace := ["internal/bytealg.CountString", "internal/bytealg.IndexByteString", "internal/bytealg.IndexString"], unfollowed := true, recurses := true, named := ["unicode/utf8.first", "unicode/utf8.acceptRanges", "internal/bytealg.MaxLen"], apart := false, laid := [("unicode/utf8.acceptRanges", laid_unicode_utf8_acceptRanges), ("unicode/utf8.first", laid_unicode_utf8_first)] }
def CountStrongSaid : Prop := countStrongRow.holds Tryz.pinned (OpenSpec.ofChange countStrongSpec)

/-- ITS FALSE NEIGHBOUR: 'it returns false'. Refute it at one input. -/
def countStrongWrong : ChangeSpec := { name := "countStrong", fn := fun _ => fun
  | [d1, d2, d3, d4] => { results := [.lit (.bool false)], args := [d1, d2, d3, d4] }
  | _ => none }
def CountStrongWrongFalsely : Prop := countStrongRow.holds Tryz.pinned (OpenSpec.ofChange countStrongWrong)

/-- 'jigsawlaw11.CountRenamed': WHATEVER THE INPUT: true; the input reads as it did. -/
def countRenamedSpec : ChangeSpec := { name := "countRenamed", fn := fun _ => fun
  | [d1, d2, d3] => { results := [.lit (.bool true)], args := [d1, d2, d3] }
  | _ => none }
def countRenamedRow : OpenClaim := { program := "ytkdedpofghlmoaagreatdoor", sum := "20c7cd29e57366aae45de09664bdae7a0ec0ae0213935f76b0d10a161a382117", func := "jigsaw/jigsawlaw11.CountRenamed", spec := "countRenamed", inPlace := ["internal/bytealg.CountString", "internal/bytealg.IndexByteString", "internal/bytealg.IndexString"], unfollowed := true, recurses := true, named := ["unicode/utf8.first", "unicode/utf8.acceptRanges", "internal/bytealg.MaxLen"], apart := false, laid := [("unicode/utf8.acceptRanges", laid_unicode_utf8_acceptRanges), ("unicode/utf8.first", laid_unicode_utf8_first)] }
def CountRenamedSaid : Prop := countRenamedRow.holds Tryz.pinned (OpenSpec.ofChange countRenamedSpec)

/-- ITS FALSE NEIGHBOUR: 'it returns false'. Refute it at one input. -/
def countRenamedWrong : ChangeSpec := { name := "countRenamed", fn := fun _ => fun
  | [d1, d2, d3] => { results := [.lit (.bool false)], args := [d1, d2, d3] }
  | _ => none }
def CountRenamedWrongFalsely : Prop := countRenamedRow.holds Tryz.pinned (OpenSpec.ofChange countRenamedWrong)

/-- 'jigsawlaw11.CountMatches': WHATEVER THE INPUT: true; the input reads as it did. -/
def countMatchesSpec : ChangeSpec := { name := "countMatches", fn := fun _ => fun
  | [d1, d2] => { results := [.lit (.bool true)], args := [d1, d2] }
  | _ => none }
def countMatchesRow : OpenClaim := { program := "ytkdedpofghlmoaagreatdoor", sum := "20c7cd29e57366aae45de09664bdae7a0ec0ae0213935f76b0d10a161a382117", func := "jigsaw/jigsawlaw11.CountMatches", spec := "countMatches", inPlace := ["internal/bytealg.CountString", "internal/bytealg.IndexByteString", "internal/bytealg.IndexString"], unfollowed := true, recurses := true, named := ["unicode/utf8.first", "unicode/utf8.acceptRanges", "internal/bytealg.MaxLen"], apart := false, laid := [("unicode/utf8.acceptRanges", laid_unicode_utf8_acceptRanges), ("unicode/utf8.first", laid_unicode_utf8_first)] }
def CountMatchesSaid : Prop := countMatchesRow.holds Tryz.pinned (OpenSpec.ofChange countMatchesSpec)

/-- ITS FALSE NEIGHBOUR: 'it returns false'. Refute it at one input. -/
def countMatchesWrong : ChangeSpec := { name := "countMatches", fn := fun _ => fun
  | [d1, d2] => { results := [.lit (.bool false)], args := [d1, d2] }
  | _ => none }
def CountMatchesWrongFalsely : Prop := countMatchesRow.holds Tryz.pinned (OpenSpec.ofChange countMatchesWrong)

/-- 'jigsawlaw11.CountTells': WHATEVER THE INPUT: true; the input reads as it did. -/
def countTellsSpec : ChangeSpec := { name := "countTells", fn := fun _ => fun
  | [d1, d2, d3] => { results := [.lit (.bool true)], args := [d1, d2, d3] }
  | _ => none }
def countTellsRow : OpenClaim := { program := "ytkdedpofghlmoaagreatdoor", sum := "20c7cd29e57366aae45de09664bdae7a0ec0ae0213935f76b0d10a161a382117", func := "jigsaw/jigsawlaw11.CountTells", spec := "countTells", inPlace := ["internal/bytealg.CountString", "internal/bytealg.IndexByteString", "internal/bytealg.IndexString"], unfollowed := true, recurses := true, named := ["unicode/utf8.first", "unicode/utf8.acceptRanges", "internal/bytealg.MaxLen"], apart := false, laid := [("unicode/utf8.acceptRanges", laid_unicode_utf8_acceptRanges), ("unicode/utf8.first", laid_unicode_utf8_first)] }
def CountTellsSaid : Prop := countTellsRow.holds Tryz.pinned (OpenSpec.ofChange countTellsSpec)

/-- ITS FALSE NEIGHBOUR: 'it returns false'. Refute it at one input. -/
def countTellsWrong : ChangeSpec := { name := "countTells", fn := fun _ => fun
  | [d1, d2, d3] => { results := [.lit (.bool false)], args := [d1, d2, d3] }
  | _ => none }
def CountTellsWrongFalsely : Prop := countTellsRow.holds Tryz.pinned (OpenSpec.ofChange countTellsWrong)

/-- 'jigsawlaw08.ArithHolds': WHATEVER THE INPUT: true; the input reads as it did. -/
def arithHoldsSpec : ChangeSpec := { name := "arithHolds", fn := fun _ => fun
  | [d1, d2] => { results := [.lit (.bool true)], args := [d1, d2] }
  | _ => none }
def arithHoldsRow : OpenClaim := { program := "ytkdedpofghlmoaagreatdoor", sum := "20c7cd29e57366aae45de09664bdae7a0ec0ae0213935f76b0d10a161a382117", func := "jigsaw/jigsawlaw08.ArithHolds", spec := "arithHolds", inPlace := ["internal/bytealg.CountString", "internal/bytealg.IndexByteString", "internal/bytealg.IndexString"], unfollowed := true, recurses := true, named := ["unicode/utf8.first", "unicode/utf8.acceptRanges", "internal/bytealg.MaxLen"], apart := false, laid := [("unicode/utf8.acceptRanges", laid_unicode_utf8_acceptRanges), ("unicode/utf8.first", laid_unicode_utf8_first)] }
def ArithHoldsSaid : Prop := arithHoldsRow.holds Tryz.pinned (OpenSpec.ofChange arithHoldsSpec)

/-- ITS FALSE NEIGHBOUR: 'it returns false'. Refute it at one input. -/
def arithHoldsWrong : ChangeSpec := { name := "arithHolds", fn := fun _ => fun
  | [d1, d2] => { results := [.lit (.bool false)], args := [d1, d2] }
  | _ => none }
def ArithHoldsWrongFalsely : Prop := arithHoldsRow.holds Tryz.pinned (OpenSpec.ofChange arithHoldsWrong)

/-- 'jigsawlaw08.ArithSound': WHATEVER THE INPUT: true; the input reads as it did. -/
def arithSoundSpec : ChangeSpec := { name := "arithSound", fn := fun _ => fun
  | [d1, d2] => { results := [.lit (.bool true)], args := [d1, d2] }
  | _ => none }
def arithSoundRow : OpenClaim := { program := "ytkdedpofghlmoaagreatdoor", sum := "20c7cd29e57366aae45de09664bdae7a0ec0ae0213935f76b0d10a161a382117", func := "jigsaw/jigsawlaw08.ArithSound", spec := "arithSound", inPlace := ["internal/bytealg.CountString", "internal/bytealg.IndexByteString", "internal/bytealg.IndexString"], unfollowed := true, recurses := true, named := ["unicode/utf8.first", "unicode/utf8.acceptRanges", "internal/bytealg.MaxLen"], apart := false, laid := [("unicode/utf8.acceptRanges", laid_unicode_utf8_acceptRanges), ("unicode/utf8.first", laid_unicode_utf8_first)] }
def ArithSoundSaid : Prop := arithSoundRow.holds Tryz.pinned (OpenSpec.ofChange arithSoundSpec)

/-- ITS FALSE NEIGHBOUR: 'it returns false'. Refute it at one input. -/
def arithSoundWrong : ChangeSpec := { name := "arithSound", fn := fun _ => fun
  | [d1, d2] => { results := [.lit (.bool false)], args := [d1, d2] }
  | _ => none }
def ArithSoundWrongFalsely : Prop := arithSoundRow.holds Tryz.pinned (OpenSpec.ofChange arithSoundWrong)

/-- 'jigsawlaw08.ArithDecides': WHATEVER THE INPUT: true; the input reads as it did. -/
def arithDecidesSpec : ChangeSpec := { name := "arithDecides", fn := fun _ => fun
  | [d1, d2] => { results := [.lit (.bool true)], args := [d1, d2] }
  | _ => none }
def arithDecidesRow : OpenClaim := { program := "ytkdedpofghlmoaagreatdoor", sum := "20c7cd29e57366aae45de09664bdae7a0ec0ae0213935f76b0d10a161a382117", func := "jigsaw/jigsawlaw08.ArithDecides", spec := "arithDecides", inPlace := ["internal/bytealg.CountString", "internal/bytealg.IndexByteString", "internal/bytealg.IndexString"], unfollowed := true, recurses := true, named := ["unicode/utf8.first", "unicode/utf8.acceptRanges", "internal/bytealg.MaxLen"], apart := false, laid := [("unicode/utf8.acceptRanges", laid_unicode_utf8_acceptRanges), ("unicode/utf8.first", laid_unicode_utf8_first)] }
def ArithDecidesSaid : Prop := arithDecidesRow.holds Tryz.pinned (OpenSpec.ofChange arithDecidesSpec)

/-- ITS FALSE NEIGHBOUR: 'it returns false'. Refute it at one input. -/
def arithDecidesWrong : ChangeSpec := { name := "arithDecides", fn := fun _ => fun
  | [d1, d2] => { results := [.lit (.bool false)], args := [d1, d2] }
  | _ => none }
def ArithDecidesWrongFalsely : Prop := arithDecidesRow.holds Tryz.pinned (OpenSpec.ofChange arithDecidesWrong)

/-- 'jigsawlaw08.ArithStrong': WHATEVER THE INPUT: true; the input reads as it did. -/
def arithStrongSpec : ChangeSpec := { name := "arithStrong", fn := fun _ => fun
  | [d1, d2, d3, d4] => { results := [.lit (.bool true)], args := [d1, d2, d3, d4] }
  | _ => none }
def arithStrongRow : OpenClaim := { program := "ytkdedpofghlmoaagreatdoor", sum := "20c7cd29e57366aae45de09664bdae7a0ec0ae0213935f76b0d10a161a382117", func := "jigsaw/jigsawlaw08.ArithStrong", spec := "arithStrong", inPlace := ["internal/bytealg.CountString", "internal/bytealg.IndexByteString", "internal/bytealg.IndexString"], unfollowed := true, recurses := true, named := ["unicode/utf8.first", "unicode/utf8.acceptRanges", "internal/bytealg.MaxLen"], apart := false, laid := [("unicode/utf8.acceptRanges", laid_unicode_utf8_acceptRanges), ("unicode/utf8.first", laid_unicode_utf8_first)] }
def ArithStrongSaid : Prop := arithStrongRow.holds Tryz.pinned (OpenSpec.ofChange arithStrongSpec)

/-- ITS FALSE NEIGHBOUR: 'it returns false'. Refute it at one input. -/
def arithStrongWrong : ChangeSpec := { name := "arithStrong", fn := fun _ => fun
  | [d1, d2, d3, d4] => { results := [.lit (.bool false)], args := [d1, d2, d3, d4] }
  | _ => none }
def ArithStrongWrongFalsely : Prop := arithStrongRow.holds Tryz.pinned (OpenSpec.ofChange arithStrongWrong)

/-- 'jigsawlaw08.ArithRenamed': WHATEVER THE INPUT: true; the input reads as it did. -/
def arithRenamedSpec : ChangeSpec := { name := "arithRenamed", fn := fun _ => fun
  | [d1, d2, d3] => { results := [.lit (.bool true)], args := [d1, d2, d3] }
  | _ => none }
def arithRenamedRow : OpenClaim := { program := "ytkdedpofghlmoaagreatdoor", sum := "20c7cd29e57366aae45de09664bdae7a0ec0ae0213935f76b0d10a161a382117", func := "jigsaw/jigsawlaw08.ArithRenamed", spec := "arithRenamed", inPlace := ["internal/bytealg.CountString", "internal/bytealg.IndexByteString", "internal/bytealg.IndexString"], unfollowed := true, recurses := true, named := ["unicode/utf8.first", "unicode/utf8.acceptRanges", "internal/bytealg.MaxLen"], apart := false, laid := [("unicode/utf8.acceptRanges", laid_unicode_utf8_acceptRanges), ("unicode/utf8.first", laid_unicode_utf8_first)] }
def ArithRenamedSaid : Prop := arithRenamedRow.holds Tryz.pinned (OpenSpec.ofChange arithRenamedSpec)

/-- ITS FALSE NEIGHBOUR: 'it returns false'. Refute it at one input. -/
def arithRenamedWrong : ChangeSpec := { name := "arithRenamed", fn := fun _ => fun
  | [d1, d2, d3] => { results := [.lit (.bool false)], args := [d1, d2, d3] }
  | _ => none }
def ArithRenamedWrongFalsely : Prop := arithRenamedRow.holds Tryz.pinned (OpenSpec.ofChange arithRenamedWrong)

/-- 'jigsawlaw08.ArithElements': WHATEVER THE INPUT: true; the input reads as it did. -/
def arithElementsSpec : ChangeSpec := { name := "arithElements", fn := fun _ => fun
  | [d1, d2] => { results := [.lit (.bool true)], args := [d1, d2] }
  | _ => none }
def arithElementsRow : OpenClaim := { program := "ytkdedpofghlmoaagreatdoor", sum := "20c7cd29e57366aae45de09664bdae7a0ec0ae0213935f76b0d10a161a382117", func := "jigsaw/jigsawlaw08.ArithElements", spec := "arithElements", inPlace := ["internal/bytealg.CountString", "internal/bytealg.IndexByteString", "internal/bytealg.IndexString"], unfollowed := true, recurses := true, named := ["unicode/utf8.first", "unicode/utf8.acceptRanges", "internal/bytealg.MaxLen"], apart := false, laid := [("unicode/utf8.acceptRanges", laid_unicode_utf8_acceptRanges), ("unicode/utf8.first", laid_unicode_utf8_first)] }
def ArithElementsSaid : Prop := arithElementsRow.holds Tryz.pinned (OpenSpec.ofChange arithElementsSpec)

/-- ITS FALSE NEIGHBOUR: 'it returns false'. Refute it at one input. -/
def arithElementsWrong : ChangeSpec := { name := "arithElements", fn := fun _ => fun
  | [d1, d2] => { results := [.lit (.bool false)], args := [d1, d2] }
  | _ => none }
def ArithElementsWrongFalsely : Prop := arithElementsRow.holds Tryz.pinned (OpenSpec.ofChange arithElementsWrong)

/-- 'jigsawlaw08.ArithTurns': WHATEVER THE INPUT: true; the input reads as it did. -/
def arithTurnsSpec : ChangeSpec := { name := "arithTurns", fn := fun _ => fun
  | [d1, d2, d3] => { results := [.lit (.bool true)], args := [d1, d2, d3] }
  | _ => none }
def arithTurnsRow : OpenClaim := { program := "ytkdedpofghlmoaagreatdoor", sum := "20c7cd29e57366aae45de09664bdae7a0ec0ae0213935f76b0d10a161a382117", func := "jigsaw/jigsawlaw08.ArithTurns", spec := "arithTurns", inPlace := ["internal/bytealg.CountString", "internal/bytealg.IndexByteString", "internal/bytealg.IndexString"], unfollowed := true, recurses := true, named := ["unicode/utf8.first", "unicode/utf8.acceptRanges", "internal/bytealg.MaxLen"], apart := false, laid := [("unicode/utf8.acceptRanges", laid_unicode_utf8_acceptRanges), ("unicode/utf8.first", laid_unicode_utf8_first)] }
def ArithTurnsSaid : Prop := arithTurnsRow.holds Tryz.pinned (OpenSpec.ofChange arithTurnsSpec)

/-- ITS FALSE NEIGHBOUR: 'it returns false'. Refute it at one input. -/
def arithTurnsWrong : ChangeSpec := { name := "arithTurns", fn := fun _ => fun
  | [d1, d2, d3] => { results := [.lit (.bool false)], args := [d1, d2, d3] }
  | _ => none }
def ArithTurnsWrongFalsely : Prop := arithTurnsRow.holds Tryz.pinned (OpenSpec.ofChange arithTurnsWrong)

/- THE SECOND FORM. 'bulk': how many values and letters a reading holds, each counted each time it is reached (what is shared counts as often as it is met; a slice's spare places count too). A statement '..UptoSaid' is the law's where the arguments, and the package variables that the reading takes, are together of bulk at most 1048576: NARROWER than '..Said'. Prove '..Said' where nothing that the law and all that it calls make is longer than what came in: it says more and counts as full. Else prove '..UptoSaid'. A law counts once. -/
mutual
def uptoBulk {H : Type} : DataW H → Nat
  | .lit (.string bytes) => bytes.length + 1
  | .lit _ => 1
  | .nil => 1
  | .ptr d => uptoBulk d + 1
  | .slice elems spare => uptoBulkAll elems + uptoBulkAll spare + 1
  | .agg parts => uptoBulkAll parts + 1
  | .iface _ d => uptoBulk d + 1
  | .map entries => uptoBulkEntries entries + 1
  | .held _ => 1
def uptoBulkAll {H : Type} : List (DataW H) → Nat
  | [] => 0
  | d :: r => uptoBulk d + uptoBulkAll r
def uptoBulkEntries {H : Type} : List (Lit × DataW H) → Nat
  | [] => 0
  | x :: r => uptoBulkEntry x + uptoBulkEntries r
def uptoBulkEntry {H : Type} : Lit × DataW H → Nat
  | (.string bytes, d) => bytes.length + uptoBulk d + 1
  | (_, d) => uptoBulk d + 1
 end
def uptoSmall : (H : Type) → List (DataW H) → Bool := fun _ ds => decide (uptoBulkAll ds ≤ 1048576)
def OpenSpec.upto (s : _root_.Go.ChangeSpec) : _root_.Go.OpenSpec := { _root_.Go.OpenSpec.ofChange s with cond := some uptoSmall }

/-- 'jigsawlaw11.CountHolds', WHERE WHAT IT READS IS OF BULK AT MOST 1048576: true; the input reads as it did. -/
def countHoldsUptoRow : OpenClaim := { program := "ytkdedpofghlmoaagreatdoor", sum := "20c7cd29e57366aae45de09664bdae7a0ec0ae0213935f76b0d10a161a382117", func := "jigsaw/jigsawlaw11.CountHolds", spec := "countHolds", inPlace := ["internal/bytealg.CountString", "internal/bytealg.IndexByteString", "internal/bytealg.IndexString"], unfollowed := true, recurses := true, named := ["unicode/utf8.first", "unicode/utf8.acceptRanges", "internal/bytealg.MaxLen"], apart := false, laid := [("unicode/utf8.acceptRanges", laid_unicode_utf8_acceptRanges), ("unicode/utf8.first", laid_unicode_utf8_first)], narrowed := true }
def CountHoldsUptoSaid : Prop := countHoldsUptoRow.holds Tryz.pinned (OpenSpec.upto countHoldsSpec)

/-- 'jigsawlaw11.CountSound', WHERE WHAT IT READS IS OF BULK AT MOST 1048576: true; the input reads as it did. -/
def countSoundUptoRow : OpenClaim := { program := "ytkdedpofghlmoaagreatdoor", sum := "20c7cd29e57366aae45de09664bdae7a0ec0ae0213935f76b0d10a161a382117", func := "jigsaw/jigsawlaw11.CountSound", spec := "countSound", inPlace := ["internal/bytealg.CountString", "internal/bytealg.IndexByteString", "internal/bytealg.IndexString"], unfollowed := true, recurses := true, named := ["unicode/utf8.first", "unicode/utf8.acceptRanges", "internal/bytealg.MaxLen"], apart := false, laid := [("unicode/utf8.acceptRanges", laid_unicode_utf8_acceptRanges), ("unicode/utf8.first", laid_unicode_utf8_first)], narrowed := true }
def CountSoundUptoSaid : Prop := countSoundUptoRow.holds Tryz.pinned (OpenSpec.upto countSoundSpec)

/-- 'jigsawlaw11.CountDecides', WHERE WHAT IT READS IS OF BULK AT MOST 1048576: true; the input reads as it did. -/
def countDecidesUptoRow : OpenClaim := { program := "ytkdedpofghlmoaagreatdoor", sum := "20c7cd29e57366aae45de09664bdae7a0ec0ae0213935f76b0d10a161a382117", func := "jigsaw/jigsawlaw11.CountDecides", spec := "countDecides", inPlace := ["internal/bytealg.CountString", "internal/bytealg.IndexByteString", "internal/bytealg.IndexString"], unfollowed := true, recurses := true, named := ["unicode/utf8.first", "unicode/utf8.acceptRanges", "internal/bytealg.MaxLen"], apart := false, laid := [("unicode/utf8.acceptRanges", laid_unicode_utf8_acceptRanges), ("unicode/utf8.first", laid_unicode_utf8_first)], narrowed := true }
def CountDecidesUptoSaid : Prop := countDecidesUptoRow.holds Tryz.pinned (OpenSpec.upto countDecidesSpec)

/-- 'jigsawlaw11.CountStrong', WHERE WHAT IT READS IS OF BULK AT MOST 1048576: true; the input reads as it did. -/
def countStrongUptoRow : OpenClaim := { program := "ytkdedpofghlmoaagreatdoor", sum := "20c7cd29e57366aae45de09664bdae7a0ec0ae0213935f76b0d10a161a382117", func := "jigsaw/jigsawlaw11.CountStrong", spec := "countStrong", inPlace := ["internal/bytealg.CountString", "internal/bytealg.IndexByteString", "internal/bytealg.IndexString"], unfollowed := true, recurses := true, named := ["unicode/utf8.first", "unicode/utf8.acceptRanges", "internal/bytealg.MaxLen"], apart := false, laid := [("unicode/utf8.acceptRanges", laid_unicode_utf8_acceptRanges), ("unicode/utf8.first", laid_unicode_utf8_first)], narrowed := true }
def CountStrongUptoSaid : Prop := countStrongUptoRow.holds Tryz.pinned (OpenSpec.upto countStrongSpec)

/-- 'jigsawlaw11.CountRenamed', WHERE WHAT IT READS IS OF BULK AT MOST 1048576: true; the input reads as it did. -/
def countRenamedUptoRow : OpenClaim := { program := "ytkdedpofghlmoaagreatdoor", sum := "20c7cd29e57366aae45de09664bdae7a0ec0ae0213935f76b0d10a161a382117", func := "jigsaw/jigsawlaw11.CountRenamed", spec := "countRenamed", inPlace := ["internal/bytealg.CountString", "internal/bytealg.IndexByteString", "internal/bytealg.IndexString"], unfollowed := true, recurses := true, named := ["unicode/utf8.first", "unicode/utf8.acceptRanges", "internal/bytealg.MaxLen"], apart := false, laid := [("unicode/utf8.acceptRanges", laid_unicode_utf8_acceptRanges), ("unicode/utf8.first", laid_unicode_utf8_first)], narrowed := true }
def CountRenamedUptoSaid : Prop := countRenamedUptoRow.holds Tryz.pinned (OpenSpec.upto countRenamedSpec)

/-- 'jigsawlaw11.CountMatches', WHERE WHAT IT READS IS OF BULK AT MOST 1048576: true; the input reads as it did. -/
def countMatchesUptoRow : OpenClaim := { program := "ytkdedpofghlmoaagreatdoor", sum := "20c7cd29e57366aae45de09664bdae7a0ec0ae0213935f76b0d10a161a382117", func := "jigsaw/jigsawlaw11.CountMatches", spec := "countMatches", inPlace := ["internal/bytealg.CountString", "internal/bytealg.IndexByteString", "internal/bytealg.IndexString"], unfollowed := true, recurses := true, named := ["unicode/utf8.first", "unicode/utf8.acceptRanges", "internal/bytealg.MaxLen"], apart := false, laid := [("unicode/utf8.acceptRanges", laid_unicode_utf8_acceptRanges), ("unicode/utf8.first", laid_unicode_utf8_first)], narrowed := true }
def CountMatchesUptoSaid : Prop := countMatchesUptoRow.holds Tryz.pinned (OpenSpec.upto countMatchesSpec)

/-- 'jigsawlaw11.CountTells', WHERE WHAT IT READS IS OF BULK AT MOST 1048576: true; the input reads as it did. -/
def countTellsUptoRow : OpenClaim := { program := "ytkdedpofghlmoaagreatdoor", sum := "20c7cd29e57366aae45de09664bdae7a0ec0ae0213935f76b0d10a161a382117", func := "jigsaw/jigsawlaw11.CountTells", spec := "countTells", inPlace := ["internal/bytealg.CountString", "internal/bytealg.IndexByteString", "internal/bytealg.IndexString"], unfollowed := true, recurses := true, named := ["unicode/utf8.first", "unicode/utf8.acceptRanges", "internal/bytealg.MaxLen"], apart := false, laid := [("unicode/utf8.acceptRanges", laid_unicode_utf8_acceptRanges), ("unicode/utf8.first", laid_unicode_utf8_first)], narrowed := true }
def CountTellsUptoSaid : Prop := countTellsUptoRow.holds Tryz.pinned (OpenSpec.upto countTellsSpec)

/-- 'jigsawlaw08.ArithHolds', WHERE WHAT IT READS IS OF BULK AT MOST 1048576: true; the input reads as it did. -/
def arithHoldsUptoRow : OpenClaim := { program := "ytkdedpofghlmoaagreatdoor", sum := "20c7cd29e57366aae45de09664bdae7a0ec0ae0213935f76b0d10a161a382117", func := "jigsaw/jigsawlaw08.ArithHolds", spec := "arithHolds", inPlace := ["internal/bytealg.CountString", "internal/bytealg.IndexByteString", "internal/bytealg.IndexString"], unfollowed := true, recurses := true, named := ["unicode/utf8.first", "unicode/utf8.acceptRanges", "internal/bytealg.MaxLen"], apart := false, laid := [("unicode/utf8.acceptRanges", laid_unicode_utf8_acceptRanges), ("unicode/utf8.first", laid_unicode_utf8_first)], narrowed := true }
def ArithHoldsUptoSaid : Prop := arithHoldsUptoRow.holds Tryz.pinned (OpenSpec.upto arithHoldsSpec)

/-- 'jigsawlaw08.ArithSound', WHERE WHAT IT READS IS OF BULK AT MOST 1048576: true; the input reads as it did. -/
def arithSoundUptoRow : OpenClaim := { program := "ytkdedpofghlmoaagreatdoor", sum := "20c7cd29e57366aae45de09664bdae7a0ec0ae0213935f76b0d10a161a382117", func := "jigsaw/jigsawlaw08.ArithSound", spec := "arithSound", inPlace := ["internal/bytealg.CountString", "internal/bytealg.IndexByteString", "internal/bytealg.IndexString"], unfollowed := true, recurses := true, named := ["unicode/utf8.first", "unicode/utf8.acceptRanges", "internal/bytealg.MaxLen"], apart := false, laid := [("unicode/utf8.acceptRanges", laid_unicode_utf8_acceptRanges), ("unicode/utf8.first", laid_unicode_utf8_first)], narrowed := true }
def ArithSoundUptoSaid : Prop := arithSoundUptoRow.holds Tryz.pinned (OpenSpec.upto arithSoundSpec)

/-- 'jigsawlaw08.ArithDecides', WHERE WHAT IT READS IS OF BULK AT MOST 1048576: true; the input reads as it did. -/
def arithDecidesUptoRow : OpenClaim := { program := "ytkdedpofghlmoaagreatdoor", sum := "20c7cd29e57366aae45de09664bdae7a0ec0ae0213935f76b0d10a161a382117", func := "jigsaw/jigsawlaw08.ArithDecides", spec := "arithDecides", inPlace := ["internal/bytealg.CountString", "internal/bytealg.IndexByteString", "internal/bytealg.IndexString"], unfollowed := true, recurses := true, named := ["unicode/utf8.first", "unicode/utf8.acceptRanges", "internal/bytealg.MaxLen"], apart := false, laid := [("unicode/utf8.acceptRanges", laid_unicode_utf8_acceptRanges), ("unicode/utf8.first", laid_unicode_utf8_first)], narrowed := true }
def ArithDecidesUptoSaid : Prop := arithDecidesUptoRow.holds Tryz.pinned (OpenSpec.upto arithDecidesSpec)

/-- 'jigsawlaw08.ArithStrong', WHERE WHAT IT READS IS OF BULK AT MOST 1048576: true; the input reads as it did. -/
def arithStrongUptoRow : OpenClaim := { program := "ytkdedpofghlmoaagreatdoor", sum := "20c7cd29e57366aae45de09664bdae7a0ec0ae0213935f76b0d10a161a382117", func := "jigsaw/jigsawlaw08.ArithStrong", spec := "arithStrong", inPlace := ["internal/bytealg.CountString", "internal/bytealg.IndexByteString", "internal/bytealg.IndexString"], unfollowed := true, recurses := true, named := ["unicode/utf8.first", "unicode/utf8.acceptRanges", "internal/bytealg.MaxLen"], apart := false, laid := [("unicode/utf8.acceptRanges", laid_unicode_utf8_acceptRanges), ("unicode/utf8.first", laid_unicode_utf8_first)], narrowed := true }
def ArithStrongUptoSaid : Prop := arithStrongUptoRow.holds Tryz.pinned (OpenSpec.upto arithStrongSpec)

/-- 'jigsawlaw08.ArithRenamed', WHERE WHAT IT READS IS OF BULK AT MOST 1048576: true; the input reads as it did. -/
def arithRenamedUptoRow : OpenClaim := { program := "ytkdedpofghlmoaagreatdoor", sum := "20c7cd29e57366aae45de09664bdae7a0ec0ae0213935f76b0d10a161a382117", func := "jigsaw/jigsawlaw08.ArithRenamed", spec := "arithRenamed", inPlace := ["internal/bytealg.CountString", "internal/bytealg.IndexByteString", "internal/bytealg.IndexString"], unfollowed := true, recurses := true, named := ["unicode/utf8.first", "unicode/utf8.acceptRanges", "internal/bytealg.MaxLen"], apart := false, laid := [("unicode/utf8.acceptRanges", laid_unicode_utf8_acceptRanges), ("unicode/utf8.first", laid_unicode_utf8_first)], narrowed := true }
def ArithRenamedUptoSaid : Prop := arithRenamedUptoRow.holds Tryz.pinned (OpenSpec.upto arithRenamedSpec)

/-- 'jigsawlaw08.ArithElements', WHERE WHAT IT READS IS OF BULK AT MOST 1048576: true; the input reads as it did. -/
def arithElementsUptoRow : OpenClaim := { program := "ytkdedpofghlmoaagreatdoor", sum := "20c7cd29e57366aae45de09664bdae7a0ec0ae0213935f76b0d10a161a382117", func := "jigsaw/jigsawlaw08.ArithElements", spec := "arithElements", inPlace := ["internal/bytealg.CountString", "internal/bytealg.IndexByteString", "internal/bytealg.IndexString"], unfollowed := true, recurses := true, named := ["unicode/utf8.first", "unicode/utf8.acceptRanges", "internal/bytealg.MaxLen"], apart := false, laid := [("unicode/utf8.acceptRanges", laid_unicode_utf8_acceptRanges), ("unicode/utf8.first", laid_unicode_utf8_first)], narrowed := true }
def ArithElementsUptoSaid : Prop := arithElementsUptoRow.holds Tryz.pinned (OpenSpec.upto arithElementsSpec)

/-- 'jigsawlaw08.ArithTurns', WHERE WHAT IT READS IS OF BULK AT MOST 1048576: true; the input reads as it did. -/
def arithTurnsUptoRow : OpenClaim := { program := "ytkdedpofghlmoaagreatdoor", sum := "20c7cd29e57366aae45de09664bdae7a0ec0ae0213935f76b0d10a161a382117", func := "jigsaw/jigsawlaw08.ArithTurns", spec := "arithTurns", inPlace := ["internal/bytealg.CountString", "internal/bytealg.IndexByteString", "internal/bytealg.IndexString"], unfollowed := true, recurses := true, named := ["unicode/utf8.first", "unicode/utf8.acceptRanges", "internal/bytealg.MaxLen"], apart := false, laid := [("unicode/utf8.acceptRanges", laid_unicode_utf8_acceptRanges), ("unicode/utf8.first", laid_unicode_utf8_first)], narrowed := true }
def ArithTurnsUptoSaid : Prop := arithTurnsUptoRow.holds Tryz.pinned (OpenSpec.upto arithTurnsSpec)

end Rows
end Go.Proofs.YtkdedpofghlmoaaGreatDoor
