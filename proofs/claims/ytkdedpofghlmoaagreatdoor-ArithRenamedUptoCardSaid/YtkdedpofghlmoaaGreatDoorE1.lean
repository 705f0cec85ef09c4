/- dom.Each: the iterator over ranges. No statement is proved here. -/
import Derived.Test.YtkdedpofghlmoaaGreatDoorD4
set_option linter.unusedVariables false
set_option linter.unusedSimpArgs false
namespace Go.Proofs.YtkdedpofghlmoaaGreatDoor
open Go.RowKit Go.Proofs.YtkdedpofghlmoaaGreatDoorW.PrintWords
set_option maxHeartbeats 400000 in
theorem dom_Each (A : Option Addr) (c : Nat) (l : List Rng) (w : World) (hc : l.length ≤ c) (hr : kRng.C w A l.length l) :
    Calls Tryz.prog 182 #[.slice A l.length c] w fun e w' => ∃ g A1 c1, e = .returned (.func (.func 245) #[] #[.pointer (some ⟨g, 0, none⟩)]) ∧ w'.heap[g]? = some (.cells #[.slice A1 (takenL l).length c1] 46 (0, 0)) ∧ kRng.C w' A1 (takenL l).length (takenL l) ∧ w.heap.size ≤ g ∧ Bel w w' := by
  have HR := Lib.hid hr
  clear hr
  have hlen := takenL_len l
  go_enter Tryz.func182, Tryz.ntmps182
  go_wp2_with fail
  refine (dom_taken _ _ _ _ hc HR.out).mono ?_
  rintro e w1 ⟨A1, c1, rfl, hl1, hr1, HB1⟩
  have HR1 := Lib.hid hr1
  clear hr1
  go_wp2_with fail
  refine (clone_Rng _ _ _ _ HR1.out (by omega)).mono ?_
  rintro e w2 ⟨v, rfl, HO⟩
  obtain ⟨A2, c2, rfl, hl2, hr2⟩ := HO.reads
  have HR2 := Lib.hid hr2
  clear hr2
  go_wp2
  go_ret
  refine ⟨_, A2, c2, rfl, ?_, Kd.now HR2.out inferInstance, ?_, (HB1.trans HO.bel).trans inferInstance⟩
  · exact heap_alloc_new _ _
  · have := (HB1.trans HO.bel).out.size
    omega
end Go.Proofs.YtkdedpofghlmoaaGreatDoor
