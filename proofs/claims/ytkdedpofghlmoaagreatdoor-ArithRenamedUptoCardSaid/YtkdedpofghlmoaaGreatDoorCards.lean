/-
  DERIVED. GIVEN WITH THE SEED: THE CARDS: each row of YtkdedpofghlmoaaGreatDoorRows.lean that lists a variable, with what it lists TIED to the program's text (the seventh form; the later family's looks); each row that meets fmt, with fmt's text TOLD by the authors' own Lean function (tested against real Go, not proved from fmt's source: count such statements apart). THE CARD IS WHAT COUNTS. Prove the row's statement (the work); the ties are given (YtkdedpofghlmoaaGreatDoorTie.lean); close each card by the builder's one call (the guide's Derived/Test/ToyasCard.lean, 'card_holds'). Laid BY PROGRAM, IN A SANDBOX (cutbox-door.mjs). By AI agents, Wed Nov 11 2026. No macro, syntax, notation, axiom, sorry.
-/
import Derived.Test.YtkdedpofghlmoaaGreatDoorRows
import GoSem.ClaimSeven
namespace Go.Proofs.YtkdedpofghlmoaaGreatDoor
namespace Rows

/-- THE TIED CARD OF 'jigsawlaw11.CountHolds'. -/
def countHoldsCard : Claim7 := { stood := { row := countHoldsRow, standIns := [], harness := (true, "672c8532211e5f948a29ece63736c9c156506eaaef00a31c3246fe6ffa151551"), looks := false }, kinds := [], alts := [], laidByText := true, laidKinds := [.data, .pinned], laidTests := true, laidLooks := .later }
def CountHoldsCardSaid : Prop := Claim7.holds Tryz.pinned (.plain (OpenSpec.ofChange countHoldsSpec)) countHoldsCard

/-- THE TIED CARD OF 'jigsawlaw11.CountSound'. -/
def countSoundCard : Claim7 := { stood := { row := countSoundRow, standIns := [], harness := (true, "672c8532211e5f948a29ece63736c9c156506eaaef00a31c3246fe6ffa151551"), looks := false }, kinds := [], alts := [], laidByText := true, laidKinds := [.data, .pinned], laidTests := true, laidLooks := .later }
def CountSoundCardSaid : Prop := Claim7.holds Tryz.pinned (.plain (OpenSpec.ofChange countSoundSpec)) countSoundCard

/-- THE TIED CARD OF 'jigsawlaw11.CountDecides'. -/
def countDecidesCard : Claim7 := { stood := { row := countDecidesRow, standIns := [], harness := (true, "672c8532211e5f948a29ece63736c9c156506eaaef00a31c3246fe6ffa151551"), looks := false }, kinds := [], alts := [], laidByText := true, laidKinds := [.data, .pinned], laidTests := true, laidLooks := .later }
def CountDecidesCardSaid : Prop := Claim7.holds Tryz.pinned (.plain (OpenSpec.ofChange countDecidesSpec)) countDecidesCard

/-- THE TIED CARD OF 'jigsawlaw11.CountStrong'. -/
def countStrongCard : Claim7 := { stood := { row := countStrongRow, standIns := [], harness := (true, "672c8532211e5f948a29ece63736c9c156506eaaef00a31c3246fe6ffa151551"), looks := false }, kinds := [], alts := [], laidByText := true, laidKinds := [.data, .pinned], laidTests := true, laidLooks := .later }
def CountStrongCardSaid : Prop := Claim7.holds Tryz.pinned (.plain (OpenSpec.ofChange countStrongSpec)) countStrongCard

/-- THE TIED CARD OF 'jigsawlaw11.CountRenamed'. -/
def countRenamedCard : Claim7 := { stood := { row := countRenamedRow, standIns := [], harness := (true, "672c8532211e5f948a29ece63736c9c156506eaaef00a31c3246fe6ffa151551"), looks := false }, kinds := [], alts := [], laidByText := true, laidKinds := [.data, .pinned], laidTests := true, laidLooks := .later }
def CountRenamedCardSaid : Prop := Claim7.holds Tryz.pinned (.plain (OpenSpec.ofChange countRenamedSpec)) countRenamedCard

/-- THE TIED CARD OF 'jigsawlaw11.CountMatches'. -/
def countMatchesCard : Claim7 := { stood := { row := countMatchesRow, standIns := [], harness := (true, "672c8532211e5f948a29ece63736c9c156506eaaef00a31c3246fe6ffa151551"), looks := false }, kinds := [], alts := [], laidByText := true, laidKinds := [.data, .pinned], laidTests := true, laidLooks := .later }
def CountMatchesCardSaid : Prop := Claim7.holds Tryz.pinned (.plain (OpenSpec.ofChange countMatchesSpec)) countMatchesCard

/-- THE TIED CARD OF 'jigsawlaw11.CountTells'. -/
def countTellsCard : Claim7 := { stood := { row := countTellsRow, standIns := [], harness := (true, "672c8532211e5f948a29ece63736c9c156506eaaef00a31c3246fe6ffa151551"), looks := false }, kinds := [], alts := [], laidByText := true, laidKinds := [.data, .pinned], laidTests := true, laidLooks := .later }
def CountTellsCardSaid : Prop := Claim7.holds Tryz.pinned (.plain (OpenSpec.ofChange countTellsSpec)) countTellsCard

/-- THE TIED CARD OF 'jigsawlaw08.ArithHolds'. -/
def arithHoldsCard : Claim7 := { stood := { row := arithHoldsRow, standIns := [], harness := (true, "672c8532211e5f948a29ece63736c9c156506eaaef00a31c3246fe6ffa151551"), looks := false }, kinds := [], alts := [], laidByText := true, laidKinds := [.data, .pinned], laidTests := true, laidLooks := .later }
def ArithHoldsCardSaid : Prop := Claim7.holds Tryz.pinned (.plain (OpenSpec.ofChange arithHoldsSpec)) arithHoldsCard

/-- THE TIED CARD OF 'jigsawlaw08.ArithSound'. -/
def arithSoundCard : Claim7 := { stood := { row := arithSoundRow, standIns := [], harness := (true, "672c8532211e5f948a29ece63736c9c156506eaaef00a31c3246fe6ffa151551"), looks := false }, kinds := [], alts := [], laidByText := true, laidKinds := [.data, .pinned], laidTests := true, laidLooks := .later }
def ArithSoundCardSaid : Prop := Claim7.holds Tryz.pinned (.plain (OpenSpec.ofChange arithSoundSpec)) arithSoundCard

/-- THE TIED CARD OF 'jigsawlaw08.ArithDecides'. -/
def arithDecidesCard : Claim7 := { stood := { row := arithDecidesRow, standIns := [], harness := (true, "672c8532211e5f948a29ece63736c9c156506eaaef00a31c3246fe6ffa151551"), looks := false }, kinds := [], alts := [], laidByText := true, laidKinds := [.data, .pinned], laidTests := true, laidLooks := .later }
def ArithDecidesCardSaid : Prop := Claim7.holds Tryz.pinned (.plain (OpenSpec.ofChange arithDecidesSpec)) arithDecidesCard

/-- THE TIED CARD OF 'jigsawlaw08.ArithStrong'. -/
def arithStrongCard : Claim7 := { stood := { row := arithStrongRow, standIns := [], harness := (true, "672c8532211e5f948a29ece63736c9c156506eaaef00a31c3246fe6ffa151551"), looks := false }, kinds := [], alts := [], laidByText := true, laidKinds := [.data, .pinned], laidTests := true, laidLooks := .later }
def ArithStrongCardSaid : Prop := Claim7.holds Tryz.pinned (.plain (OpenSpec.ofChange arithStrongSpec)) arithStrongCard

/-- THE TIED CARD OF 'jigsawlaw08.ArithRenamed'. -/
def arithRenamedCard : Claim7 := { stood := { row := arithRenamedRow, standIns := [], harness := (true, "672c8532211e5f948a29ece63736c9c156506eaaef00a31c3246fe6ffa151551"), looks := false }, kinds := [], alts := [], laidByText := true, laidKinds := [.data, .pinned], laidTests := true, laidLooks := .later }
def ArithRenamedCardSaid : Prop := Claim7.holds Tryz.pinned (.plain (OpenSpec.ofChange arithRenamedSpec)) arithRenamedCard

/-- THE TIED CARD OF 'jigsawlaw08.ArithElements'. -/
def arithElementsCard : Claim7 := { stood := { row := arithElementsRow, standIns := [], harness := (true, "672c8532211e5f948a29ece63736c9c156506eaaef00a31c3246fe6ffa151551"), looks := false }, kinds := [], alts := [], laidByText := true, laidKinds := [.data, .pinned], laidTests := true, laidLooks := .later }
def ArithElementsCardSaid : Prop := Claim7.holds Tryz.pinned (.plain (OpenSpec.ofChange arithElementsSpec)) arithElementsCard

/-- THE TIED CARD OF 'jigsawlaw08.ArithTurns'. -/
def arithTurnsCard : Claim7 := { stood := { row := arithTurnsRow, standIns := [], harness := (true, "672c8532211e5f948a29ece63736c9c156506eaaef00a31c3246fe6ffa151551"), looks := false }, kinds := [], alts := [], laidByText := true, laidKinds := [.data, .pinned], laidTests := true, laidLooks := .later }
def ArithTurnsCardSaid : Prop := Claim7.holds Tryz.pinned (.plain (OpenSpec.ofChange arithTurnsSpec)) arithTurnsCard

/-- THE SECOND FORM's CARD OF 'jigsawlaw11.CountHolds'. -/
def countHoldsUptoCard : Claim7 := { stood := { row := countHoldsUptoRow, standIns := [], harness := (true, "672c8532211e5f948a29ece63736c9c156506eaaef00a31c3246fe6ffa151551"), looks := false }, kinds := [], alts := [], laidByText := true, laidKinds := [.data, .pinned], laidTests := true, laidLooks := .later }
def CountHoldsUptoCardSaid : Prop := Claim7.holds Tryz.pinned (.plain (OpenSpec.upto countHoldsSpec)) countHoldsUptoCard

/-- THE SECOND FORM's CARD OF 'jigsawlaw11.CountSound'. -/
def countSoundUptoCard : Claim7 := { stood := { row := countSoundUptoRow, standIns := [], harness := (true, "672c8532211e5f948a29ece63736c9c156506eaaef00a31c3246fe6ffa151551"), looks := false }, kinds := [], alts := [], laidByText := true, laidKinds := [.data, .pinned], laidTests := true, laidLooks := .later }
def CountSoundUptoCardSaid : Prop := Claim7.holds Tryz.pinned (.plain (OpenSpec.upto countSoundSpec)) countSoundUptoCard

/-- THE SECOND FORM's CARD OF 'jigsawlaw11.CountDecides'. -/
def countDecidesUptoCard : Claim7 := { stood := { row := countDecidesUptoRow, standIns := [], harness := (true, "672c8532211e5f948a29ece63736c9c156506eaaef00a31c3246fe6ffa151551"), looks := false }, kinds := [], alts := [], laidByText := true, laidKinds := [.data, .pinned], laidTests := true, laidLooks := .later }
def CountDecidesUptoCardSaid : Prop := Claim7.holds Tryz.pinned (.plain (OpenSpec.upto countDecidesSpec)) countDecidesUptoCard

/-- THE SECOND FORM's CARD OF 'jigsawlaw11.CountStrong'. -/
def countStrongUptoCard : Claim7 := { stood := { row := countStrongUptoRow, standIns := [], harness := (true, "672c8532211e5f948a29ece63736c9c156506eaaef00a31c3246fe6ffa151551"), looks := false }, kinds := [], alts := [], laidByText := true, laidKinds := [.data, .pinned], laidTests := true, laidLooks := .later }
def CountStrongUptoCardSaid : Prop := Claim7.holds Tryz.pinned (.plain (OpenSpec.upto countStrongSpec)) countStrongUptoCard

/-- THE SECOND FORM's CARD OF 'jigsawlaw11.CountRenamed'. -/
def countRenamedUptoCard : Claim7 := { stood := { row := countRenamedUptoRow, standIns := [], harness := (true, "672c8532211e5f948a29ece63736c9c156506eaaef00a31c3246fe6ffa151551"), looks := false }, kinds := [], alts := [], laidByText := true, laidKinds := [.data, .pinned], laidTests := true, laidLooks := .later }
def CountRenamedUptoCardSaid : Prop := Claim7.holds Tryz.pinned (.plain (OpenSpec.upto countRenamedSpec)) countRenamedUptoCard

/-- THE SECOND FORM's CARD OF 'jigsawlaw11.CountMatches'. -/
def countMatchesUptoCard : Claim7 := { stood := { row := countMatchesUptoRow, standIns := [], harness := (true, "672c8532211e5f948a29ece63736c9c156506eaaef00a31c3246fe6ffa151551"), looks := false }, kinds := [], alts := [], laidByText := true, laidKinds := [.data, .pinned], laidTests := true, laidLooks := .later }
def CountMatchesUptoCardSaid : Prop := Claim7.holds Tryz.pinned (.plain (OpenSpec.upto countMatchesSpec)) countMatchesUptoCard

/-- THE SECOND FORM's CARD OF 'jigsawlaw11.CountTells'. -/
def countTellsUptoCard : Claim7 := { stood := { row := countTellsUptoRow, standIns := [], harness := (true, "672c8532211e5f948a29ece63736c9c156506eaaef00a31c3246fe6ffa151551"), looks := false }, kinds := [], alts := [], laidByText := true, laidKinds := [.data, .pinned], laidTests := true, laidLooks := .later }
def CountTellsUptoCardSaid : Prop := Claim7.holds Tryz.pinned (.plain (OpenSpec.upto countTellsSpec)) countTellsUptoCard

/-- THE SECOND FORM's CARD OF 'jigsawlaw08.ArithHolds'. -/
def arithHoldsUptoCard : Claim7 := { stood := { row := arithHoldsUptoRow, standIns := [], harness := (true, "672c8532211e5f948a29ece63736c9c156506eaaef00a31c3246fe6ffa151551"), looks := false }, kinds := [], alts := [], laidByText := true, laidKinds := [.data, .pinned], laidTests := true, laidLooks := .later }
def ArithHoldsUptoCardSaid : Prop := Claim7.holds Tryz.pinned (.plain (OpenSpec.upto arithHoldsSpec)) arithHoldsUptoCard

/-- THE SECOND FORM's CARD OF 'jigsawlaw08.ArithSound'. -/
def arithSoundUptoCard : Claim7 := { stood := { row := arithSoundUptoRow, standIns := [], harness := (true, "672c8532211e5f948a29ece63736c9c156506eaaef00a31c3246fe6ffa151551"), looks := false }, kinds := [], alts := [], laidByText := true, laidKinds := [.data, .pinned], laidTests := true, laidLooks := .later }
def ArithSoundUptoCardSaid : Prop := Claim7.holds Tryz.pinned (.plain (OpenSpec.upto arithSoundSpec)) arithSoundUptoCard

/-- THE SECOND FORM's CARD OF 'jigsawlaw08.ArithDecides'. -/
def arithDecidesUptoCard : Claim7 := { stood := { row := arithDecidesUptoRow, standIns := [], harness := (true, "672c8532211e5f948a29ece63736c9c156506eaaef00a31c3246fe6ffa151551"), looks := false }, kinds := [], alts := [], laidByText := true, laidKinds := [.data, .pinned], laidTests := true, laidLooks := .later }
def ArithDecidesUptoCardSaid : Prop := Claim7.holds Tryz.pinned (.plain (OpenSpec.upto arithDecidesSpec)) arithDecidesUptoCard

/-- THE SECOND FORM's CARD OF 'jigsawlaw08.ArithStrong'. -/
def arithStrongUptoCard : Claim7 := { stood := { row := arithStrongUptoRow, standIns := [], harness := (true, "672c8532211e5f948a29ece63736c9c156506eaaef00a31c3246fe6ffa151551"), looks := false }, kinds := [], alts := [], laidByText := true, laidKinds := [.data, .pinned], laidTests := true, laidLooks := .later }
def ArithStrongUptoCardSaid : Prop := Claim7.holds Tryz.pinned (.plain (OpenSpec.upto arithStrongSpec)) arithStrongUptoCard

/-- THE SECOND FORM's CARD OF 'jigsawlaw08.ArithRenamed'. -/
def arithRenamedUptoCard : Claim7 := { stood := { row := arithRenamedUptoRow, standIns := [], harness := (true, "672c8532211e5f948a29ece63736c9c156506eaaef00a31c3246fe6ffa151551"), looks := false }, kinds := [], alts := [], laidByText := true, laidKinds := [.data, .pinned], laidTests := true, laidLooks := .later }
def ArithRenamedUptoCardSaid : Prop := Claim7.holds Tryz.pinned (.plain (OpenSpec.upto arithRenamedSpec)) arithRenamedUptoCard

/-- THE SECOND FORM's CARD OF 'jigsawlaw08.ArithElements'. -/
def arithElementsUptoCard : Claim7 := { stood := { row := arithElementsUptoRow, standIns := [], harness := (true, "672c8532211e5f948a29ece63736c9c156506eaaef00a31c3246fe6ffa151551"), looks := false }, kinds := [], alts := [], laidByText := true, laidKinds := [.data, .pinned], laidTests := true, laidLooks := .later }
def ArithElementsUptoCardSaid : Prop := Claim7.holds Tryz.pinned (.plain (OpenSpec.upto arithElementsSpec)) arithElementsUptoCard

/-- THE SECOND FORM's CARD OF 'jigsawlaw08.ArithTurns'. -/
def arithTurnsUptoCard : Claim7 := { stood := { row := arithTurnsUptoRow, standIns := [], harness := (true, "672c8532211e5f948a29ece63736c9c156506eaaef00a31c3246fe6ffa151551"), looks := false }, kinds := [], alts := [], laidByText := true, laidKinds := [.data, .pinned], laidTests := true, laidLooks := .later }
def ArithTurnsUptoCardSaid : Prop := Claim7.holds Tryz.pinned (.plain (OpenSpec.upto arithTurnsSpec)) arithTurnsUptoCard
end Rows
end Go.Proofs.YtkdedpofghlmoaaGreatDoor
