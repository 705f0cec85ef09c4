/- Closed facts on the program that the card of ArithTurns asks. No statement is proved here. -/
import Derived.Test.YtkdedpofghlmoaaGreatDoorQF1
set_option maxRecDepth 100000
namespace Go.Proofs.YtkdedpofghlmoaaGreatDoor.arithTurns
open Go.ChangeShapes Go.WideShapes Go.ChangeAt Go.RowKit
theorem j_wf : Rows.arithTurnsRow.wf (OpenSpec.ofChange (OpenSpec.ofChange Rows.arithTurnsSpec).bare) = true := by kernel_rfl
theorem j_laid : laidOutB Tryz.prog = true := by kernel_rfl
theorem j_maps : mapsRowed Tryz.prog = true := by kernel_rfl
theorem j_read : Tryz.f16.params.all (Tryz.prog.readableRec ·) = true := by kernel_rfl
theorem j_named : namedTie Tryz.prog Rows.arithTurnsRow.named (OpenSpec.ofChange Rows.arithTurnsSpec).bare.vars = true := by kernel_rfl
theorem j_stops : Tryz.prog.stops = [] := by kernel_rfl
theorem j_knobs : Tryz.prog.stopKnobs = [] := by kernel_rfl
theorem j_inPlace : (Rows.arithTurnsRow.inPlace == Tryz.prog.inPlace 16) = true := by kernel_rfl
theorem j_unf : (Rows.arithTurnsRow.unfollowed == Tryz.prog.unfollowed 16) = true := by kernel_rfl
theorem j_vars : (Rows.arithTurnsRow.named == Tryz.prog.varsNamed 16) = true := by kernel_rfl
end Go.Proofs.YtkdedpofghlmoaaGreatDoor.arithTurns
set_option maxRecDepth 100000
namespace Go.Proofs.YtkdedpofghlmoaaGreatDoor.arithTurns
open Go.ChangeShapes Go.WideShapes Go.ChangeAt Go.RowKit
theorem j1 : (Rows.arithTurnsRow.stops == []) = true := by kernel_rfl
theorem j2 : (Tryz.prog.stops == []) = true := by kernel_rfl
theorem j3 : (Rows.arithTurnsRow.knobs == []) = true := by kernel_rfl
theorem j4 : (Tryz.prog.stopKnobs == []) = true := by kernel_rfl
theorem j9 : (Rows.arithTurnsRow.maps == (Tryz.f16.params.toList ++ (OpenSpec.ofChange Rows.arithTurnsSpec).bare.plain.varTypes Tryz.prog).any (Tryz.prog.mapsRec ·)) = true := by kernel_rfl
theorem j10 : (Rows.arithTurnsRow.ifaces == (Tryz.f16.params.toList ++ (OpenSpec.ofChange Rows.arithTurnsSpec).bare.plain.varTypes Tryz.prog).any (Tryz.prog.ifacesRec ·)) = true := by kernel_rfl
theorem j11 : (Rows.arithTurnsRow.mapsOut == Tryz.prog.mapsAmong Tryz.f16.resultTypes.toList) = true := by kernel_rfl
theorem j12 : (Rows.arithTurnsRow.loops == (Tryz.f16.params.toList ++ (OpenSpec.ofChange Rows.arithTurnsSpec).bare.plain.varTypes Tryz.prog).any (Tryz.prog.loopsFrom ·)) = true := by kernel_rfl
theorem j13 : (Rows.arithTurnsRow.wideKeys == (Tryz.f16.params.toList ++ (OpenSpec.ofChange Rows.arithTurnsSpec).bare.plain.varTypes Tryz.prog ++ Tryz.f16.resultTypes.toList).any (Tryz.prog.wideKeysFrom ·)) = true := by kernel_rfl
theorem j14 : (OpenSpec.ofChange Rows.arithTurnsSpec).bare.vars.all (Tryz.prog.varReadable ·) = true := by kernel_rfl
theorem j15 : Tryz.f16.resultTypes.all (fun t => Tryz.prog.readableRec t && decide (t < Tryz.prog.types.size)) = true := by kernel_rfl
theorem j16 : (Rows.arithTurnsRow.ifacesOut == Tryz.f16.resultTypes.toList.any (Tryz.prog.ifacesRec ·)) = true := by kernel_rfl
theorem j17 : (Rows.arithTurnsRow.loopsOut == Tryz.f16.resultTypes.toList.any (Tryz.prog.loopsFrom ·)) = true := by kernel_rfl
theorem j18 : (Rows.arithTurnsRow.plainKeys == Tryz.prog.plainKeys) = true := by kernel_rfl
theorem j19 : Rows.arithTurnsRow.shortTexts.isNone = true := by kernel_rfl
theorem j20 : Tryz.prog.stopsHeard = true := by kernel_rfl
theorem j21 : Tryz.prog.mayEnter = true := by kernel_rfl
theorem j22 : (Rows.arithTurnsRow.lifted == Tryz.prog.liftsFinal) = true := by kernel_rfl
theorem j23 : (Tryz.prog.make == some Rows.arithTurnsRow.make) = true := by kernel_rfl
theorem j24 : (Rows.arithTurnsRow.kinds == (if Rows.arithTurnsRow.domain.isEmpty then [] else Tryz.f16.params.toList.map fun t => match Tryz.prog.underlying t with | some (.int k) => some k | _ => none)) = true := by kernel_rfl
theorem j25 : (Rows.arithTurnsRow.pinned == Rows.arithTurnsRow.pinnedBy) = true := by kernel_rfl
theorem j26 : (Rows.arithTurnsRow.veiled == (Tryz.f16.params.toList ++ (OpenSpec.ofChange Rows.arithTurnsSpec).bare.plain.varTypes Tryz.prog ++ Tryz.f16.resultTypes.toList).any (Tryz.prog.veiledRec ·)) = true := by kernel_rfl
theorem j27 : Rows.arithTurnsRow.veiledFits Tryz.prog Tryz.f16.params.toList (Tryz.f16.params.toList ++ (OpenSpec.ofChange Rows.arithTurnsSpec).bare.plain.varTypes Tryz.prog ++ Tryz.f16.resultTypes.toList) = true := by kernel_rfl
theorem a2 {x y : Bool} (hx : x = true) (hy : y = true) : (x && y) = true := by rw [hx, hy]; rfl
theorem unf : Tryz.prog.unfollowed 16 = true := by
  have h := j_unf
  exact (eq_of_beq h).symm
theorem j_rec : (Rows.arithTurnsRow.recurses == Tryz.prog.recurses 16) = true := by
  unfold Program.recurses
  rw [unf]
  rfl
theorem closed : joinedFacts Tryz.prog 16 Tryz.f16 (OpenSpec.ofChange Rows.arithTurnsSpec).bare Rows.arithTurnsRow = true := (a2 (a2 (a2 (a2 (a2 (a2 (a2 (a2 (a2 (a2 (a2 (a2 (a2 (a2 (a2 (a2 (a2 (a2 (a2 (a2 (a2 (a2 (a2 (a2 (a2 (a2 (a2 (a2 (a2 (a2 (a2 j_wf j_laid) j_maps) j_read) j_named) j1) j2) j3) j4) j_inPlace) j_unf) j_rec) j_vars) j9) j10) j11) j12) j13) j14) j15) j16) j17) j18) j19) j20) j21) j22) j23) j24) j25) j26) j27)
end Go.Proofs.YtkdedpofghlmoaaGreatDoor.arithTurns
set_option maxRecDepth 100000
namespace Go.Proofs.YtkdedpofghlmoaaGreatDoor.arithTurns
theorem c_wf : Rows.arithTurnsRow.wfByText (OpenSpec.ofChange Rows.arithTurnsSpec) = true := by kernel_rfl
theorem c_goes : false = Rows.arithTurnsRow.goesBy Tryz.prog := by kernel_rfl
theorem c_main : Tryz.prog.mainIs = some (true, "672c8532211e5f948a29ece63736c9c156506eaaef00a31c3246fe6ffa151551".toList) := by kernel_rfl
end Go.Proofs.YtkdedpofghlmoaaGreatDoor.arithTurns
