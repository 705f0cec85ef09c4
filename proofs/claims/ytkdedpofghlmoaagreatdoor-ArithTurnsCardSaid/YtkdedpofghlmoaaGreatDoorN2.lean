/- The walks of dom.Of and tool.hull at one value. No statement is proved here. -/
import Derived.Test.YtkdedpofghlmoaaGreatDoorN1
set_option linter.unusedVariables false
set_option linter.unusedSimpArgs false
namespace Go.Proofs.YtkdedpofghlmoaaGreatDoor
open Go.RowKit Go.Proofs.YtkdedpofghlmoaaGreatDoorW.PrintWords
set_option maxRecDepth 100000 in
set_option maxHeartbeats 2000000 in
theorem of_one (v : Int) (hv : inB v = true) (A : Option Addr) (c : Nat) (w : World) (hr : (Kd.int .i64).C w A 1 [v]) :
    Calls Tryz.prog 114 #[.slice A 1 c] w fun e w' => ∃ g c', e = .returned (.tuple #[.slice (some ⟨g, 0, none⟩) 1 c', .int .i64 0]) ∧ w.heap.size ≤ g ∧ 1 ≤ c' ∧ kRng.C w' (some ⟨g, 0, none⟩) 1 [⟨v, v⟩] ∧ Bel w w' := by
  have HV := Lib.hid hv
  obtain ⟨ad, rfl, c0⟩ := Int.nth hr (k := 0) (x := v) rfl
  change w.cell? ad = some (.int .i64 v) at c0
  clear hv hr
  go_enter Tryz.func114, Tryz.ntmps114
  go_wp2_with fail
  refine wp_loop_rounds 2 ?_
  rw [rounds_succ]
  go_wp2_with (at_builtin; refine AccR.app (w0 := w) (Wr := w) (Acc.nilB inferInstance) rfl rfl rfl rfl (by simp) inferInstance (by simp) ?_; intro v1 w1 HO1 hk1; clear hk1)
  simp only [List.nil_append] at HO1
  obtain ⟨A1, c1', rfl, hl1, hC1⟩ := HO1.reads
  simp only [List.length_cons, List.length_nil, Nat.zero_add] at hl1
  have HC1 := Lib.hid hC1
  have HB1 := Lib.hid HO1.bel
  clear hC1 HO1 c0
  rw [rounds_succ]
  go_wp2_with fail
  refine (norm_one v HV.out _ _ _ HC1.out).mono ?_
  rintro e w2 ⟨g2, c2, rfl, hg2, hl2, hC2, HB2⟩
  have HC2 := Lib.hid hC2
  have HG2 := Lib.hid (Nat.le_trans HB1.out.out.size hg2)
  clear hC2 hg2
  go_wp2
  go_ret2
  exact ⟨_, _, rfl, HG2.out, hl2, HC2.out, HB1.out.trans HB2⟩
theorem blk_of_C {W : World} {g : Nat} {r : Rng} (h : kRng.C W (some ⟨g, 0, none⟩) 1 [r]) : g < W.heap.size := by
  obtain ⟨ad, e, c0, _⟩ := Rng.nth h (k := 0) (x := r) rfl
  cases e
  exact World.block_lt_of_cell? W ⟨g, 0, none⟩ c0
theorem hull_ret {w W : World} {tm : Array Value} {v : Value} (h : W.heap[w.heap.size]? = some (.cells (domC (.slice none 0 0)) 49 (0, 0))) (hB : Bel w W) {R : Ending → World → Prop} (ht : tm.getD 4 undef = .pointer (some ⟨w.heap.size, 0, none⟩))
    (k : ∀ w', Bel w w' → (∀ d : Kd Rng, True → ∀ g : Nat, g < W.heap.size → g ≠ w.heap.size → w'.heap[g]? = W.heap[g]?) → R (.returned (.agg (domC v))) w') :
    bodyPost Tryz.prog Tryz.f176 R Exit.ret { tmps := tm, defers := [] }
      ((((((W.setCell ⟨w.heap.size, 0, none⟩ (.bool false)).setCell ⟨w.heap.size, 1, none⟩ v).setCell ⟨w.heap.size, 2, none⟩ (.slice none 0 0)).setCell ⟨w.heap.size, 3, none⟩ (.slice none 0 0)).setCell ⟨w.heap.size, 4, none⟩ (.int .i64 0)).setCell ⟨w.heap.size, 5, none⟩ (.int .i64 0)) := by
  refine bodyPost_ret (v := .agg (domC v)) (results_cell_row (fn := Tryz.f176) (p := 4) (ty := 49) rfl _ _ _ 49 _ (0, 0) _ ht (set6 h) Tryz.underlying49 rfl size49) rfl (k _ ?_ ?_)
  · exact ⟨(((((hB.out.setCell (p := ⟨w.heap.size, 0, none⟩) (Nat.le_refl _) _).setCell (p := ⟨w.heap.size, 1, none⟩) (Nat.le_refl _) _).setCell (p := ⟨w.heap.size, 2, none⟩) (Nat.le_refl _) _).setCell (p := ⟨w.heap.size, 3, none⟩) (Nat.le_refl _) _).setCell (p := ⟨w.heap.size, 4, none⟩) (Nat.le_refl _) _).setCell (p := ⟨w.heap.size, 5, none⟩) (Nat.le_refl _) _⟩
  · intro _ _ g _ hne
    rw [heap_setCell_other _ _ _ _ hne, heap_setCell_other _ _ _ _ hne, heap_setCell_other _ _ _ _ hne, heap_setCell_other _ _ _ _ hne, heap_setCell_other _ _ _ _ hne, heap_setCell_other _ _ _ _ hne]
set_option maxRecDepth 100000 in
set_option maxHeartbeats 2000000 in
theorem hull_one (x : Val) (hv : inB x.n = true) (A : Option Addr) (c : Nat) (w : World) (hr : kVal.C w A 1 [x]) :
    Calls Tryz.prog 176 #[.bool false, .slice A 1 c] w fun e w' => ∃ g c', e = .returned (.agg #[.bool false, .slice (some ⟨g, 0, none⟩) 1 c', .slice none 0 0, .slice none 0 0, .int .i64 0, .int .i64 0]) ∧ w.heap.size ≤ g ∧ 1 ≤ c' ∧ kRng.C w' (some ⟨g, 0, none⟩) 1 [⟨x.n, x.n⟩] ∧ Bel w w' := by
  have HV := Lib.hid hv
  obtain ⟨ad, A2, c2, rfl, v0, v1, v2, hl2, hC2⟩ := Val.nth hr (k := 0) (x := x) rfl
  change w.cell? ad = some (.bool x.set) at v0
  change w.cell? ⟨ad.block, ad.off + 1, none⟩ = some (.int .i64 x.n) at v1
  change w.cell? ⟨ad.block, ad.off + 2, none⟩ = some (.slice A2 x.s.length c2) at v2
  replace v0 : ∀ (W : World) [Bel w W], W.cell? ad = some (.bool x.set) := fun W h => h.cell v0
  replace v1 : ∀ (W : World) [Bel w W], W.cell? ⟨ad.block, ad.off + 1, none⟩ = some (.int .i64 x.n) := fun W h => h.cell v1
  replace v2 : ∀ (W : World) [Bel w W], W.cell? ⟨ad.block, ad.off + 2, none⟩ = some (.slice A2 x.s.length c2) := fun W h => h.cell v2
  clear hv hr hC2
  obtain ⟨wz, hwz⟩ : ∃ wz, (w.alloc (.cells (domC (.slice none 0 0)) 49)).alloc (.cells #[.bool x.set, .int .i64 x.n, .slice A2 x.s.length c2] 53) = wz := ⟨_, rfl⟩
  have zb : Bel w wz := hwz ▸ inferInstance
  have z0 : wz.heap[w.heap.size]? = some (.cells (domC (.slice none 0 0)) 49 (0, 0)) := hwz ▸ (heap_alloc_old _ _ (by simp)).trans (heap_alloc_new _ _)
  have HWZ := Lib.hid hwz
  have Z0 := Lib.hid z0
  clear hwz z0
  go_enter Tryz.func176, Tryz.ntmps176
  go_wp2_with fail
  refine wp_loop_rounds 2 ?_
  rw [rounds_succ]
  go_wp2_with (at_builtin; rw [show (w.alloc (.cells (domC (.slice none 0 0)) 49)).alloc (.cells #[.bool x.set, .int .i64 x.n, .slice A2 x.s.length c2] 53) = wz from HWZ.out]; refine AccI.app (w0 := wz) (Wr := wz) Acc.nil rfl rfl rfl rfl (by rw [← HWZ.out]; simp) inferInstance (by simp) ?_; intro y1 w1 HO1 hk1; clear hk1)
  simp only [List.nil_append] at HO1
  obtain ⟨A1, c1', rfl, hl1, hC1⟩ := HO1.reads
  simp only [List.length_cons, List.length_nil, Nat.zero_add] at hl1
  have HC1 := Lib.hid hC1
  have HB1 := Lib.hid HO1.bel
  clear hC1 HO1
  rw [rounds_succ]
  go_wp2_with fail
  refine (of_one x.n HV.out _ _ _ HC1.out).mono ?_
  rintro e w2 ⟨g3, c3, rfl, hg3, hl3, hC3, HB2⟩
  have HG := Lib.hid (show w.heap.size < g3 from Nat.lt_of_lt_of_le (blk_lt ((HB1.out.out.block _ (blk_lt Z0.out)).trans Z0.out)) hg3)
  clear hg3
  have HC3 := Lib.hid hC3
  have HBz := Lib.hid (HB1.out.trans HB2)
  have y1 := (HBz.out.out.block _ (blk_lt Z0.out)).trans Z0.out
  have n0 : w2.cell? ⟨w.heap.size, 0, none⟩ = some (.bool false) := row_cell y1 0
  have o0 := frozen_of_row w2 w.heap.size 0 _ _ y1
  have n1 : w2.cell? ⟨w.heap.size, 1, none⟩ = some (.slice none 0 0) := row_cell y1 1
  have o1 := frozen_of_row w2 w.heap.size 1 _ _ y1
  have n2 : w2.cell? ⟨w.heap.size, 2, none⟩ = some (.slice none 0 0) := row_cell y1 2
  have o2 := frozen_of_row w2 w.heap.size 2 _ _ y1
  have n3 : w2.cell? ⟨w.heap.size, 3, none⟩ = some (.slice none 0 0) := row_cell y1 3
  have o3 := frozen_of_row w2 w.heap.size 3 _ _ y1
  have n4 : w2.cell? ⟨w.heap.size, 4, none⟩ = some (.int .i64 0) := row_cell y1 4
  have o4 := frozen_of_row w2 w.heap.size 4 _ _ y1
  have n5 : w2.cell? ⟨w.heap.size, 5, none⟩ = some (.int .i64 0) := row_cell y1 5
  have o5 := frozen_of_row w2 w.heap.size 5 _ _ y1
  have HY := Lib.hid y1
  have HBw := Lib.hid (zb.trans HBz.out)
  clear hC3 y1 v0 v1 v2 HB2
  go_wp2
  refine hull_ret HY.out HBw.out rfl ?_
  intro w' hB' hk
  exact ⟨_, _, rfl, Nat.le_of_lt HG.out, hl3, C_move HC3.out (fun _ _ h => h) (hk kRng trivial g3 (blk_of_C HC3.out) (by have := HG.out; omega)), hB'⟩
end Go.Proofs.YtkdedpofghlmoaaGreatDoor
