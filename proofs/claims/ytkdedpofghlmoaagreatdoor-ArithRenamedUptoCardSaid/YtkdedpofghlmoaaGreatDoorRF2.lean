/- Closed facts on the program that the card of ArithRenamed asks. No statement is proved here. -/
import Derived.Test.YtkdedpofghlmoaaGreatDoorRF1
set_option maxRecDepth 100000
namespace Go.Proofs.YtkdedpofghlmoaaGreatDoor.arithRenamed
open Go.ChangeShapes Go.WideShapes Go.ChangeAt Go.RowKit
theorem j_wf : Rows.arithRenamedUptoRow.wf (OpenSpec.ofChange (Rows.OpenSpec.upto Rows.arithRenamedSpec).bare) = true := by kernel_rfl
theorem j_laid : laidOutB Tryz.prog = true := by kernel_rfl
theorem j_maps : mapsRowed Tryz.prog = true := by kernel_rfl
theorem j_read : Tryz.f14.params.all (Tryz.prog.readableRec ·) = true := by kernel_rfl
theorem j_named : namedTie Tryz.prog Rows.arithRenamedUptoRow.named (Rows.OpenSpec.upto Rows.arithRenamedSpec).bare.vars = true := by kernel_rfl
theorem j_stops : Tryz.prog.stops = [] := by kernel_rfl
theorem j_knobs : Tryz.prog.stopKnobs = [] := by kernel_rfl
theorem j_inPlace : (Rows.arithRenamedUptoRow.inPlace == Tryz.prog.inPlace 14) = true := by kernel_rfl
theorem j_unf : (Rows.arithRenamedUptoRow.unfollowed == Tryz.prog.unfollowed 14) = true := by kernel_rfl
theorem j_vars : (Rows.arithRenamedUptoRow.named == Tryz.prog.varsNamed 14) = true := by kernel_rfl
end Go.Proofs.YtkdedpofghlmoaaGreatDoor.arithRenamed
set_option maxRecDepth 100000
namespace Go.Proofs.YtkdedpofghlmoaaGreatDoor.arithRenamed
open Go.ChangeShapes Go.WideShapes Go.ChangeAt Go.RowKit
theorem j1 : (Rows.arithRenamedUptoRow.stops == []) = true := by kernel_rfl
theorem j2 : (Tryz.prog.stops == []) = true := by kernel_rfl
theorem j3 : (Rows.arithRenamedUptoRow.knobs == []) = true := by kernel_rfl
theorem j4 : (Tryz.prog.stopKnobs == []) = true := by kernel_rfl
theorem j9 : (Rows.arithRenamedUptoRow.maps == (Tryz.f14.params.toList ++ (Rows.OpenSpec.upto Rows.arithRenamedSpec).bare.plain.varTypes Tryz.prog).any (Tryz.prog.mapsRec ·)) = true := by kernel_rfl
theorem j10 : (Rows.arithRenamedUptoRow.ifaces == (Tryz.f14.params.toList ++ (Rows.OpenSpec.upto Rows.arithRenamedSpec).bare.plain.varTypes Tryz.prog).any (Tryz.prog.ifacesRec ·)) = true := by kernel_rfl
theorem j11 : (Rows.arithRenamedUptoRow.mapsOut == Tryz.prog.mapsAmong Tryz.f14.resultTypes.toList) = true := by kernel_rfl
theorem j12 : (Rows.arithRenamedUptoRow.loops == (Tryz.f14.params.toList ++ (Rows.OpenSpec.upto Rows.arithRenamedSpec).bare.plain.varTypes Tryz.prog).any (Tryz.prog.loopsFrom ·)) = true := by kernel_rfl
theorem j13 : (Rows.arithRenamedUptoRow.wideKeys == (Tryz.f14.params.toList ++ (Rows.OpenSpec.upto Rows.arithRenamedSpec).bare.plain.varTypes Tryz.prog ++ Tryz.f14.resultTypes.toList).any (Tryz.prog.wideKeysFrom ·)) = true := by kernel_rfl
theorem j14 : (Rows.OpenSpec.upto Rows.arithRenamedSpec).bare.vars.all (Tryz.prog.varReadable ·) = true := by kernel_rfl
theorem j15 : Tryz.f14.resultTypes.all (fun t => Tryz.prog.readableRec t && decide (t < Tryz.prog.types.size)) = true := by kernel_rfl
theorem j16 : (Rows.arithRenamedUptoRow.ifacesOut == Tryz.f14.resultTypes.toList.any (Tryz.prog.ifacesRec ·)) = true := by kernel_rfl
theorem j17 : (Rows.arithRenamedUptoRow.loopsOut == Tryz.f14.resultTypes.toList.any (Tryz.prog.loopsFrom ·)) = true := by kernel_rfl
theorem j18 : (Rows.arithRenamedUptoRow.plainKeys == Tryz.prog.plainKeys) = true := by kernel_rfl
theorem j19 : Rows.arithRenamedUptoRow.shortTexts.isNone = true := by kernel_rfl
theorem j20 : Tryz.prog.stopsHeard = true := by kernel_rfl
theorem j21 : Tryz.prog.mayEnter = true := by kernel_rfl
theorem j22 : (Rows.arithRenamedUptoRow.lifted == Tryz.prog.liftsFinal) = true := by kernel_rfl
theorem j23 : (Tryz.prog.make == some Rows.arithRenamedUptoRow.make) = true := by kernel_rfl
theorem j24 : (Rows.arithRenamedUptoRow.kinds == (if Rows.arithRenamedUptoRow.domain.isEmpty then [] else Tryz.f14.params.toList.map fun t => match Tryz.prog.underlying t with | some (.int k) => some k | _ => none)) = true := by kernel_rfl
theorem j25 : (Rows.arithRenamedUptoRow.pinned == Rows.arithRenamedUptoRow.pinnedBy) = true := by kernel_rfl
theorem j26 : (Rows.arithRenamedUptoRow.veiled == (Tryz.f14.params.toList ++ (Rows.OpenSpec.upto Rows.arithRenamedSpec).bare.plain.varTypes Tryz.prog ++ Tryz.f14.resultTypes.toList).any (Tryz.prog.veiledRec ·)) = true := by kernel_rfl
theorem j27 : Rows.arithRenamedUptoRow.veiledFits Tryz.prog Tryz.f14.params.toList (Tryz.f14.params.toList ++ (Rows.OpenSpec.upto Rows.arithRenamedSpec).bare.plain.varTypes Tryz.prog ++ Tryz.f14.resultTypes.toList) = true := by kernel_rfl
theorem a2 {x y : Bool} (hx : x = true) (hy : y = true) : (x && y) = true := by rw [hx, hy]; rfl
theorem unf : Tryz.prog.unfollowed 14 = true := by
  have h := j_unf
  exact (eq_of_beq h).symm
theorem j_rec : (Rows.arithRenamedUptoRow.recurses == Tryz.prog.recurses 14) = true := by
  unfold Program.recurses
  rw [unf]
  rfl
theorem closed : joinedFacts Tryz.prog 14 Tryz.f14 (Rows.OpenSpec.upto Rows.arithRenamedSpec).bare Rows.arithRenamedUptoRow = true := (a2 (a2 (a2 (a2 (a2 (a2 (a2 (a2 (a2 (a2 (a2 (a2 (a2 (a2 (a2 (a2 (a2 (a2 (a2 (a2 (a2 (a2 (a2 (a2 (a2 (a2 (a2 (a2 (a2 (a2 (a2 j_wf j_laid) j_maps) j_read) j_named) j1) j2) j3) j4) j_inPlace) j_unf) j_rec) j_vars) j9) j10) j11) j12) j13) j14) j15) j16) j17) j18) j19) j20) j21) j22) j23) j24) j25) j26) j27)
end Go.Proofs.YtkdedpofghlmoaaGreatDoor.arithRenamed
set_option maxRecDepth 100000
namespace Go.Proofs.YtkdedpofghlmoaaGreatDoor.arithRenamed
theorem c_wf : Rows.arithRenamedUptoRow.wfByText (Rows.OpenSpec.upto Rows.arithRenamedSpec) = true := by kernel_rfl
theorem c_goes : false = Rows.arithRenamedUptoRow.goesBy Tryz.prog := by kernel_rfl
theorem c_main : Tryz.prog.mainIs = some (true, "672c8532211e5f948a29ece63736c9c156506eaaef00a31c3246fe6ffa151551".toList) := by kernel_rfl
end Go.Proofs.YtkdedpofghlmoaaGreatDoor.arithRenamed
