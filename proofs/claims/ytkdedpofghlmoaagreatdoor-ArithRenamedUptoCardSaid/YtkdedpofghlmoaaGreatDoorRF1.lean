/- Closed facts on the program that the row of ArithRenamed asks. No statement is proved here. -/
import Derived.Test.YtkdedpofghlmoaaGreatDoorCards
import Derived.Test.YtkdedpofghlmoaaGreatDoorTie
import Derived.WalkKit
import Derived.ProofKit
import Derived.OpenShut
import Derived.Deep.DeepHandedRow
import Derived.LaidMore
import Derived.Lay
import Derived.Shelf.Vars
set_option maxRecDepth 100000
namespace Go.Proofs.YtkdedpofghlmoaaGreatDoor.arithRenamed
open Go.ChangeShapes Go.WideShapes Go.ChangeAt Go.RowKit
theorem own : ownKnob Tryz.prog.godebug = none := by kernel_rfl
/-- A world for the witness: both tables laid. -/
noncomputable def laidWorld (os : Os) : World := World.laidAll Tryz.prog os Rows.arithRenamedUptoRow.laid
abbrev wit : Array Value := #[.agg #[.string ⟨#[]⟩, .slice none 0 0], .slice none 0 0, .int .i64 0]
theorem laid_met (os : Os) : laidMet Tryz.prog Rows.arithRenamedUptoRow.laid ((laidWorld os).forCall (fun _ _ => 0) ⟨#[], wit, []⟩).memory :=
  laidMet_laidAll _ (by kernel_rfl) (by kernel_rfl)
theorem no_init : Tryz.checked.prog.inits.idxOf? 14 = none := by kernel_rfl
theorem w_vars (os : Os) : ((laidWorld os).forCall (fun _ _ => 0) ⟨#[], wit, []⟩).variablesB Tryz.checked.prog = true := by kernel_rfl
theorem w_rest (os : Os) : (((laidWorld os).forCall (fun _ _ => 0) ⟨#[], wit, []⟩).heap.toList.drop Tryz.checked.prog.globals.size).take ((begin Tryz.checked.prog (fun _ _ => 0) default).world.heap.size - Tryz.checked.prog.globals.size) =
      (begin Tryz.checked.prog (fun _ _ => 0) default).world.heap.toList.drop Tryz.checked.prog.globals.size := by kernel_rfl
theorem w_ok (os : Os) : Input.okWideB Tryz.checked.prog ((laidWorld os).forCall (fun _ _ => 0) ⟨#[], wit, []⟩) 14 ⟨#[], wit, []⟩ = true := by kernel_rfl
theorem reads (os : Os) {H : Type} (enc : TypeId × Value → H) : ∃ places, DataW.whole enc Tryz.prog ((laidWorld os).forCall (fun _ _ => 0) ⟨#[], wit, []⟩).memory Tryz.f14.params.toList Rows.arithRenamedSpec.vars false wit.toList 8 = some ([.agg [.lit (.string []), .nil], .nil, .lit (.int .i64 0)], [], places) :=
  ⟨[], by kernel_rfl⟩
theorem w_row (os : Os) {H : Type} (enc : TypeId × Value → H) : (Rows.OpenSpec.upto Rows.arithRenamedSpec).preRow enc Tryz.checked.prog Tryz.f14 Rows.arithRenamedUptoRow.domain false Rows.arithRenamedUptoRow.laid ((laidWorld os).forCall (fun _ _ => 0) ⟨#[], wit, []⟩).memory wit := by
  obtain ⟨places, hx⟩ := reads os enc
  exact OpenSpec.preRow_of_cond 8 hx (by kernel_rfl) (fun k hk => by cases hk; kernel_rfl) (by kernel_rfl) (laid_met os)
theorem named : Tryz.pinned.checked.prog.funcNamed Rows.arithRenamedUptoRow.func = some 14 := by kernel_rfl
theorem named2 : Tryz.prog.funcNamed "jigsaw/jigsawlaw08.ArithRenamed" = some 14 := by kernel_rfl
theorem inst : Tryz.f14.isInstance Tryz.pinned.checked.prog Rows.arithRenamedUptoRow.origin Rows.arithRenamedUptoRow.targs := of_decide_eq_true (by kernel_rfl)
theorem wrap : Tryz.f14.isWrapper Tryz.pinned.checked.prog Rows.arithRenamedUptoRow.wrapper Rows.arithRenamedUptoRow.mainSum := by
  unfold Func.isWrapper; first | (rw [if_pos (by decide +kernel)]; kernel_rfl) | (rw [if_neg (by decide +kernel)]; exact ⟨rfl, rfl⟩)
theorem nolooks : false = Tryz.pinned.checked.prog.looks [] := by kernel_rfl
theorem nostand24 : Tryz.prog.wantsStandIn 24 = false := by kernel_rfl
theorem nostand25 : Tryz.prog.wantsStandIn 25 = false := by kernel_rfl
theorem nostand3 : Tryz.prog.wantsStandIn 3 = false := by kernel_rfl
end Go.Proofs.YtkdedpofghlmoaaGreatDoor.arithRenamed
