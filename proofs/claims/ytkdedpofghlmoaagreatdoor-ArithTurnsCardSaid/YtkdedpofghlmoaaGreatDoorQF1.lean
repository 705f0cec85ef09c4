/- Closed facts on the program that the row of ArithTurns asks. No statement is proved here. -/
import Derived.Test.YtkdedpofghlmoaaGreatDoorCards
import Derived.Test.YtkdedpofghlmoaaGreatDoorTie
import Derived.WalkKit
import Derived.ProofKit
import Derived.OpenShut
import Derived.Deep.DeepHandedRow
import Derived.LaidMore
import Derived.Lay
import Derived.Shelf.Vars
set_option maxRecDepth 100000
namespace Go.Proofs.YtkdedpofghlmoaaGreatDoor.arithTurns
open Go.ChangeShapes Go.WideShapes Go.ChangeAt Go.RowKit
theorem own : ownKnob Tryz.prog.godebug = none := by kernel_rfl
/-- A world for the witness: both tables laid. -/
noncomputable def laidWorld (os : Os) : World := World.laidAll Tryz.prog os Rows.arithTurnsRow.laid
abbrev wit : Array Value := #[.int .i64 0, .int .i64 0, .int .i64 0]
theorem laid_met (os : Os) : laidMet Tryz.prog Rows.arithTurnsRow.laid ((laidWorld os).forCall (fun _ _ => 0) ⟨#[], wit, []⟩).memory :=
  laidMet_laidAll _ (by kernel_rfl) (by kernel_rfl)
theorem no_init : Tryz.checked.prog.inits.idxOf? 16 = none := by kernel_rfl
theorem w_vars (os : Os) : ((laidWorld os).forCall (fun _ _ => 0) ⟨#[], wit, []⟩).variablesB Tryz.checked.prog = true := by kernel_rfl
theorem w_rest (os : Os) : (((laidWorld os).forCall (fun _ _ => 0) ⟨#[], wit, []⟩).heap.toList.drop Tryz.checked.prog.globals.size).take ((begin Tryz.checked.prog (fun _ _ => 0) default).world.heap.size - Tryz.checked.prog.globals.size) =
      (begin Tryz.checked.prog (fun _ _ => 0) default).world.heap.toList.drop Tryz.checked.prog.globals.size := by kernel_rfl
theorem w_ok (os : Os) : Input.okWideB Tryz.checked.prog ((laidWorld os).forCall (fun _ _ => 0) ⟨#[], wit, []⟩) 16 ⟨#[], wit, []⟩ = true := by kernel_rfl
theorem reads (os : Os) {H : Type} (enc : TypeId × Value → H) : ∃ places, DataW.whole enc Tryz.prog ((laidWorld os).forCall (fun _ _ => 0) ⟨#[], wit, []⟩).memory Tryz.f16.params.toList Rows.arithTurnsSpec.vars false wit.toList 8 = some ([.lit (.int .i64 0), .lit (.int .i64 0), .lit (.int .i64 0)], [], places) :=
  ⟨[], by kernel_rfl⟩
theorem w_row (os : Os) {H : Type} (enc : TypeId × Value → H) : (OpenSpec.ofChange Rows.arithTurnsSpec).preRow enc Tryz.checked.prog Tryz.f16 Rows.arithTurnsRow.domain false Rows.arithTurnsRow.laid ((laidWorld os).forCall (fun _ _ => 0) ⟨#[], wit, []⟩).memory wit := by
  obtain ⟨places, hx⟩ := reads os enc
  exact OpenSpec.preRow_of_cond 8 hx (by kernel_rfl) (fun k hk => by cases hk) (by kernel_rfl) (laid_met os)
theorem named : Tryz.pinned.checked.prog.funcNamed Rows.arithTurnsRow.func = some 16 := by kernel_rfl
theorem named2 : Tryz.prog.funcNamed "jigsaw/jigsawlaw08.ArithTurns" = some 16 := by kernel_rfl
theorem inst : Tryz.f16.isInstance Tryz.pinned.checked.prog Rows.arithTurnsRow.origin Rows.arithTurnsRow.targs := of_decide_eq_true (by kernel_rfl)
theorem wrap : Tryz.f16.isWrapper Tryz.pinned.checked.prog Rows.arithTurnsRow.wrapper Rows.arithTurnsRow.mainSum := by
  unfold Func.isWrapper; first | (rw [if_pos (by decide +kernel)]; kernel_rfl) | (rw [if_neg (by decide +kernel)]; exact ⟨rfl, rfl⟩)
theorem nolooks : false = Tryz.pinned.checked.prog.looks [] := by kernel_rfl
theorem nostand : Tryz.prog.wantsStandIn 2 = false := by kernel_rfl
end Go.Proofs.YtkdedpofghlmoaaGreatDoor.arithTurns
