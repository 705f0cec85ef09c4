/- The walks of Work.Drop at a constant, and of arith.tighten where nothing changes. No statement is proved here. -/
import Derived.Test.YtkdedpofghlmoaaGreatDoorL2
import Derived.Test.YtkdedpofghlmoaaGreatDoorD4
import Derived.Test.YtkdedpofghlmoaaGreatDoorR3
set_option linter.unusedVariables false
set_option linter.unusedSimpArgs false
namespace Go.Proofs.YtkdedpofghlmoaaGreatDoor
open Go.RowKit Go.Proofs.YtkdedpofghlmoaaGreatDoorW.PrintWords
set_option maxHeartbeats 1000000 in
theorem tool_rightDom (A : Option Addr) (l : List Rng) (c : Nat) (w : World) (hr : kRng.C w A l.length l) (h : Hid (RightL l = true)) :
    Calls Tryz.prog 104 #[.agg #[.bool false, .slice A l.length c, .slice none 0 0, .slice none 0 0, .int .i64 0, .int .i64 0]] w fun e w' => e = .returned (.bool true) ∧ Bel w w' := by
  have HR := Lib.hid hr
  clear hr
  go_enter Tryz.func104, Tryz.ntmps104
  go_wp2_with fail
  refine (dom_Right _ _ _ _ (Kd.now HR.out inferInstance)).mono ?_
  rintro e w1 ⟨rfl, HB1⟩
  rw [h.out]
  have d2 : w1.cell? ⟨w.heap.size, 2, none⟩ = some (.slice none 0 0) := Bel.box HB1 rfl 2 rfl
  have d3 : w1.cell? ⟨w.heap.size, 3, none⟩ = some (.slice none 0 0) := Bel.box HB1 rfl 3 rfl
  have d4 : w1.cell? ⟨w.heap.size, 4, none⟩ = some (.int .i64 0) := Bel.box HB1 rfl 4 rfl
  have d5 : w1.cell? ⟨w.heap.size, 5, none⟩ = some (.int .i64 0) := Bel.box HB1 rfl 5 rfl
  go_wp2
  go_ret
  exact ⟨rfl, Bel.trans inferInstance HB1⟩
theorem tool_empty (A : Option Addr) (m : Nat) (c : Nat) (w : World) :
    Calls Tryz.prog 106 #[.agg #[.bool false, .slice A m c, .slice none 0 0, .slice none 0 0, .int .i64 0, .int .i64 0]] w fun e w' => e = .returned (.bool ((m : Int) == 0)) ∧ Bel w w' := by
  go_enter Tryz.func106, Tryz.ntmps106
  go_wp2
  go_ret
  exact ⟨rfl, inferInstance⟩
theorem tool_count (A : Option Addr) (l : List Rng) (c : Nat) (w : World) (hc : l.length ≤ c) (hr : kRng.C w A l.length l) :
    Calls Tryz.prog 173 #[.agg #[.bool false, .slice A l.length c, .slice none 0 0, .slice none 0 0, .int .i64 0, .int .i64 0]] w fun e w' => e = .returned (.int .i64 (sizeL (takenL l))) ∧ Bel w w' := by
  have HR := Lib.hid hr
  clear hr
  go_enter Tryz.func173, Tryz.ntmps173
  go_wp2_with fail
  refine (dom_Size _ _ _ _ hc (Kd.now HR.out inferInstance)).mono ?_
  rintro e w1 ⟨rfl, HB1⟩
  go_wp2
  go_ret
  exact ⟨rfl, Bel.trans inferInstance HB1⟩
theorem tool_same (A B : Option Addr) (l m : List Rng) (c d : Nat) (w : World) (hc : l.length ≤ c) (hd : m.length ≤ d) (hr : kRng.C w A l.length l) (hs : kRng.C w B m.length m) :
    Calls Tryz.prog 110 #[.agg #[.bool false, .slice A l.length c, .slice none 0 0, .slice none 0 0, .int .i64 0, .int .i64 0], .agg #[.bool false, .slice B m.length d, .slice none 0 0, .slice none 0 0, .int .i64 0, .int .i64 0]] w
      fun e w' => e = .returned (.bool (sameL l m)) ∧ Bel w w' := by
  have HR := Lib.hid hr
  have HS := Lib.hid hs
  clear hr hs
  go_enter Tryz.func110, Tryz.ntmps110
  go_wp2_with fail
  refine (dom_Same _ _ _ _ _ _ _ hc hd (Kd.now HR.out inferInstance) (Kd.now HS.out inferInstance)).mono ?_
  rintro e w1 ⟨rfl, HB1⟩
  go_wp2
  go_ret
  exact ⟨rfl, Bel.trans inferInstance HB1⟩
end Go.Proofs.YtkdedpofghlmoaaGreatDoor
set_option linter.unusedVariables false
set_option linter.unusedSimpArgs false
namespace Go.Proofs.YtkdedpofghlmoaaGreatDoor
open Go.RowKit Go.Proofs.YtkdedpofghlmoaaGreatDoorW.PrintWords
theorem size53 : (Tryz.prog.info? 53).map (·.size) = some 3 := by kernel_rfl
theorem first_ret {w W : World} {g : Nat} {tm : Array Value} {a b c x y z : Value} (hg : w.heap.size ≤ g) (h : W.heap[g]? = some (.cells #[a, b, c] 53 (0, 0))) (hB : Below w.heap.size w W) (ht : tm.getD 2 undef = .pointer (some ⟨g, 0, none⟩) := by rfl) :
    bodyPost Tryz.prog Tryz.f174 (fun e w' => e = .returned (.agg #[x, y, z]) ∧ Bel w w') Exit.ret { tmps := tm, defers := [] }
      (((W.setCell ⟨g, 0, none⟩ x).setCell ⟨g, 1, none⟩ y).setCell ⟨g, 2, none⟩ z) := by
  refine bodyPost_ret (v := .agg #[x, y, z]) (results_cell_row (fn := Tryz.f174) (p := 2) (ty := 53) rfl _ _ g 53 _ (0, 0) _ ht (set3 h) Tryz.underlying53 rfl size53) rfl ?_
  exact ⟨rfl, ⟨((hB.setCell (p := ⟨g, 0, none⟩) hg _).setCell (p := ⟨g, 1, none⟩) hg _).setCell (p := ⟨g, 2, none⟩) hg _⟩⟩
set_option maxHeartbeats 1000000 in
theorem tool_first (A : Option Addr) (l : List Rng) (c : Nat) (w : World) (hc : l.length ≤ c) (hr : kRng.C w A l.length l) :
    Calls Tryz.prog 174 #[.agg #[.bool false, .slice A l.length c, .slice none 0 0, .slice none 0 0, .int .i64 0, .int .i64 0]] w
      fun e w' => e = .returned (.agg #[.bool false, .int .i64 (nextL (-1000000) (takenL l)).1, .slice none 0 0]) ∧ Bel w w' := by
  have HR := Lib.hid hr
  clear hr
  obtain ⟨n, hn⟩ : ∃ n, nextL (-1000000) (takenL l) = n := ⟨_, rfl⟩
  rw [hn]
  have HN := Lib.hid hn
  clear hn
  go_enter Tryz.func174, Tryz.ntmps174
  go_wp2_with fail
  refine (dom_Min _ _ _ _ hc (Kd.now HR.out inferInstance)).mono ?_
  rintro e w1 ⟨rfl, HB1⟩
  rw [HN.out]
  have hb : w1.heap[w.heap.size + 1]? = some (.cells #[.bool false, .int .i64 0, .slice none 0 0] 53 (0, 0)) := (HB1.out.block _ (by simp)).trans (heap_alloc2_new w _ _)
  have f0 := frozen_of_row w1 (w.heap.size + 1) 0 _ _ hb
  have f1 := frozen_of_row w1 (w.heap.size + 1) 1 _ _ hb
  have f2 := frozen_of_row w1 (w.heap.size + 1) 2 _ _ hb
  have d0 := (row_cell hb 0).trans (show _ = some (.bool false) from rfl)
  have d1 := (row_cell hb 1).trans (show _ = some (.int .i64 0) from rfl)
  have d2 := (row_cell hb 2).trans (show _ = some (.slice none 0 0) from rfl)
  have HH := Lib.hid hb
  have HBB := Lib.hid (Bel.trans (inferInstance : Bel w _) HB1)
  clear hb
  go_wp2
  exact first_ret (by omega) HH.out HBB.out.out
theorem law_Least (A : Option Addr) (l : List Rng) (c : Nat) (B C : Value) (p q : Value) (w : World) (hc : l.length ≤ c) (hr : kRng.C w A l.length l) :
    Calls Tryz.prog 57 #[.agg #[.bool false, .slice A l.length c, .slice none 0 0, .slice none 0 0, .int .i64 0, .int .i64 0]] w fun e w' => e = .returned (.int .i64 (minR l).1) ∧ Bel w w' := by
  have HR := Lib.hid hr
  clear hr
  go_enter Tryz.func57, Tryz.ntmps57
  go_wp2_with fail
  refine (r02_Min _ _ _ _ hc (Kd.now HR.out inferInstance)).mono ?_
  rintro e w1 ⟨rfl, HB1⟩
  go_wp2
  go_ret
  exact ⟨rfl, Bel.trans inferInstance HB1⟩
theorem law_Greatest (A : Option Addr) (l : List Rng) (c : Nat) (w : World) (hc : l.length ≤ c) (hr : kRng.C w A l.length l) :
    Calls Tryz.prog 84 #[.agg #[.bool false, .slice A l.length c, .slice none 0 0, .slice none 0 0, .int .i64 0, .int .i64 0]] w fun e w' => e = .returned (.int .i64 (maxL l).1) ∧ Bel w w' := by
  have HR := Lib.hid hr
  clear hr
  go_enter Tryz.func84, Tryz.ntmps84
  go_wp2_with fail
  refine (r02_Max _ _ _ _ hc (Kd.now HR.out inferInstance)).mono ?_
  rintro e w1 ⟨rfl, HB1⟩
  go_wp2
  go_ret
  exact ⟨rfl, Bel.trans inferInstance HB1⟩
theorem clone_nil (w : World) : Calls Tryz.prog 163 #[.slice none 0 0] w fun e w' => e = .returned (.slice none 0 0) ∧ Bel w w' := by
  have h1 := fun w => Lib.run_eql_slice_nil (P := Tryz.prog) w 47 2 none 0 0 0 0 Tryz.underlying47
  go_enter Tryz.func163, Tryz.ntmps163
  go_wp2
  go_ret
  exact ⟨rfl, inferInstance⟩
theorem Acc.low {α : Type} {d : Kd α} {e : Nat} {w w1 W : World} {v : Value} {xs : List α} (h : Acc d e w1 W v xs) (hb : Bel w w1) : Acc d e w W v xs := ⟨Kd.R_lower h.own hb.out.size, hb.trans h.bel⟩
theorem Acc.set {α : Type} {d : Kd α} {e : Nat} {w W : World} {v : Value} {xs : List α} (h : Acc d e w W v xs) {g t : Nat} {cells : Array Value} (hb : W.heap[g]? = some (.cells cells t (0, 0))) (ht : ∀ q, q ∈ e :: d.E → q ≠ t) (hg : w.heap.size ≤ g) (j : Nat) (u : Value) : Acc d e w (W.setCell ⟨g, j, none⟩ u) v xs :=
  ⟨Kd.R_set h.own hb ht j u, ⟨h.bel.out.setCell (p := ⟨g, j, none⟩) hg u⟩⟩
abbrev domC (v : Value) : Array Value := #[.bool false, v, .slice none 0 0, .slice none 0 0, .int .i64 0, .int .i64 0]
theorem lent_end {w w1 W : World} {v a : Value} {l : List Rng} (h : Acc kRng 101 w w1 v l) (hb : Bel w1 W) {g : Nat} (hg : w.heap.size ≤ g) (z0 : W.heap[g]? = some (.cells (domC a) 49 (0, 0))) (z1 : W.heap[g + 1]? = some (.cells (domC (.slice none 0 0)) 49 (0, 0))) :
    Hid (Acc kRng 101 w (((W.setCell ⟨g, 1, none⟩ v).setCell ⟨g, 2, none⟩ (.slice none 0 0)).setCell ⟨g, 3, none⟩ (.slice none 0 0)) v l) ∧
    Hid ((((W.setCell ⟨g, 1, none⟩ v).setCell ⟨g, 2, none⟩ (.slice none 0 0)).setCell ⟨g, 3, none⟩ (.slice none 0 0)).heap[g]? = some (.cells (domC v) 49 (0, 0)) ∧ (((W.setCell ⟨g, 1, none⟩ v).setCell ⟨g, 2, none⟩ (.slice none 0 0)).setCell ⟨g, 3, none⟩ (.slice none 0 0)).heap[g + 1]? = some (.cells (domC (.slice none 0 0)) 49 (0, 0))) := by
  have y1 := heap_setCell_same W g 1 _ 49 v z0
  have y2 := heap_setCell_same _ g 2 _ 49 (.slice none 0 0) y1
  have y3 := heap_setCell_same _ g 3 _ 49 (.slice none 0 0) y2
  have hne : ∀ q, q ∈ 101 :: kRng.E → q ≠ 49 := by
    intro q hq
    simp [kRng, Kd.iso, Kd.pair, Kd.int, Kd.scalar] at hq
    omega
  refine ⟨Lib.hid ((((h.later hb).set z0 hne hg 1 v).set y1 hne hg 2 _).set y2 hne hg 3 _), Lib.hid ⟨?_, ?_⟩⟩
  · simpa using y3
  · rw [heap_setCell_other _ _ _ _ (by simp), heap_setCell_other _ _ _ _ (by simp), heap_setCell_other _ _ _ _ (by simp)]
    exact z1
theorem set6 {W : World} {g : Nat} {a b c d e f p q r s t u : Value} {ty : TypeId} (h : W.heap[g]? = some (.cells #[a, b, c, d, e, f] ty (0, 0))) :
    ((((((W.setCell ⟨g, 0, none⟩ p).setCell ⟨g, 1, none⟩ q).setCell ⟨g, 2, none⟩ r).setCell ⟨g, 3, none⟩ s).setCell ⟨g, 4, none⟩ t).setCell ⟨g, 5, none⟩ u).heap[g]? = some (.cells #[p, q, r, s, t, u] ty (0, 0)) := by
  have h1 := heap_setCell_same W g 0 _ ty p h
  have h2 := heap_setCell_same _ g 1 _ ty q h1
  have h3 := heap_setCell_same _ g 2 _ ty r h2
  have h4 := heap_setCell_same _ g 3 _ ty s h3
  have h5 := heap_setCell_same _ g 4 _ ty t h4
  have h6 := heap_setCell_same _ g 5 _ ty u h5
  simpa using h6
theorem size49 : (Tryz.prog.info? 49).map (·.size) = some 6 := by kernel_rfl
theorem lent_ret {w W : World} {tm : Array Value} {v : Value} {l : List Rng} (h : W.heap[w.heap.size + 1]? = some (.cells (domC (.slice none 0 0)) 49 (0, 0))) (hA : Acc kRng 101 w W v l) (ht : tm.getD 2 undef = .pointer (some ⟨w.heap.size + 1, 0, none⟩) := by rfl) :
    bodyPost Tryz.prog Tryz.f103 (fun e w' => ∃ v, e = .returned (.agg #[.bool false, v, .slice none 0 0, .slice none 0 0, .int .i64 0, .int .i64 0]) ∧ Acc kRng 101 w w' v l) Exit.ret { tmps := tm, defers := [] }
      ((((((W.setCell ⟨w.heap.size + 1, 0, none⟩ (.bool false)).setCell ⟨w.heap.size + 1, 1, none⟩ v).setCell ⟨w.heap.size + 1, 2, none⟩ (.slice none 0 0)).setCell ⟨w.heap.size + 1, 3, none⟩ (.slice none 0 0)).setCell ⟨w.heap.size + 1, 4, none⟩ (.int .i64 0)).setCell ⟨w.heap.size + 1, 5, none⟩ (.int .i64 0)) := by
  have h1 := heap_setCell_same W _ 0 _ 49 (.bool false) h
  have h2 := heap_setCell_same _ _ 1 _ 49 v h1
  have h3 := heap_setCell_same _ _ 2 _ 49 (.slice none 0 0) h2
  have h4 := heap_setCell_same _ _ 3 _ 49 (.slice none 0 0) h3
  have h5 := heap_setCell_same _ _ 4 _ 49 (.int .i64 0) h4
  have hne : ∀ q, q ∈ 101 :: kRng.E → q ≠ 49 := by
    intro q hq
    simp [kRng, Kd.iso, Kd.pair, Kd.int, Kd.scalar] at hq
    omega
  refine bodyPost_ret (v := .agg (domC v)) (results_cell_row (fn := Tryz.f103) (p := 2) (ty := 49) rfl _ _ _ 49 _ (0, 0) _ ht (set6 h) Tryz.underlying49 rfl size49) rfl ?_
  exact ⟨v, rfl, (((((hA.set h hne (by omega) 0 _).set h1 hne (by omega) 1 _).set h2 hne (by omega) 2 _).set h3 hne (by omega) 3 _).set h4 hne (by omega) 4 _).set h5 hne (by omega) 5 _⟩
set_option maxRecDepth 100000 in
set_option maxHeartbeats 1000000 in
theorem tool_lent (A : Option Addr) (l : List Rng) (c : Nat) (w : World) (hl : l.length ≤ 4096) (hr : kRng.C w A l.length l) :
    Calls Tryz.prog 103 #[.agg #[.bool false, .slice A l.length c, .slice none 0 0, .slice none 0 0, .int .i64 0, .int .i64 0]] w
      fun e w' => ∃ v, e = .returned (.agg #[.bool false, v, .slice none 0 0, .slice none 0 0, .int .i64 0, .int .i64 0]) ∧ Acc kRng 101 w w' v l := by
  have HR := Lib.hid hr
  clear hr
  go_enter Tryz.func103, Tryz.ntmps103
  go_upto_region 1 with fail
  obtain ⟨wz, hwz⟩ : ∃ wz, (w.alloc (.cells #[.bool false, .slice A l.length c, .slice none 0 0, .slice none 0 0, .int .i64 0, .int .i64 0] 49)).alloc (.cells #[.bool false, .slice none 0 0, .slice none 0 0, .slice none 0 0, .int .i64 0, .int .i64 0] 49) = wz := ⟨_, rfl⟩
  have zb : Bel w wz := hwz ▸ inferInstance
  have z0 : wz.heap[w.heap.size]? = some (.cells #[.bool false, .slice A l.length c, .slice none 0 0, .slice none 0 0, .int .i64 0, .int .i64 0] 49 (0, 0)) := hwz ▸ (heap_alloc_old _ _ (by simp)).trans (heap_alloc_new _ _)
  have z1 : wz.heap[w.heap.size + 1]? = some (.cells #[.bool false, .slice none 0 0, .slice none 0 0, .slice none 0 0, .int .i64 0, .int .i64 0] 49 (0, 0)) := hwz ▸ heap_alloc2_new w _ _
  rw [hwz]
  have k1 : ∀ (W : World) [Bel wz W], W.cell? ⟨w.heap.size, 1, none⟩ = some (.slice A l.length c) := fun W h => h.cell (row_cell z0 1)
  have k2 : ∀ (W : World) [Bel wz W], W.cell? ⟨w.heap.size, 2, none⟩ = some (.slice none 0 0) := fun W h => h.cell (row_cell z0 2)
  have k3 : ∀ (W : World) [Bel wz W], W.cell? ⟨w.heap.size, 3, none⟩ = some (.slice none 0 0) := fun W h => h.cell (row_cell z0 3)
  have f1 : ∀ (W : World) [Bel wz W], W.frozen? ⟨w.heap.size, 1, none⟩ = false := fun W h => frozen_of_row W w.heap.size 1 _ _ ((h.out.block _ (blk_lt z0)).trans z0)
  have f2 : ∀ (W : World) [Bel wz W], W.frozen? ⟨w.heap.size, 2, none⟩ = false := fun W h => frozen_of_row W w.heap.size 2 _ _ ((h.out.block _ (blk_lt z0)).trans z0)
  have f3 : ∀ (W : World) [Bel wz W], W.frozen? ⟨w.heap.size, 3, none⟩ = false := fun W h => frozen_of_row W w.heap.size 3 _ _ ((h.out.block _ (blk_lt z0)).trans z0)
  have Z0 := Lib.hid z0
  have Z1 := Lib.hid z1
  clear hwz z0 z1
  go_cut [] (fun wx => ∃ v, Hid (Acc kRng 101 w wx v l) ∧ Hid (wx.heap[w.heap.size]? = some (.cells #[.bool false, v, .slice none 0 0, .slice none 0 0, .int .i64 0, .int .i64 0] 49 (0, 0)) ∧ wx.heap[w.heap.size + 1]? = some (.cells #[.bool false, .slice none 0 0, .slice none 0 0, .slice none 0 0, .int .i64 0, .int .i64 0] 49 (0, 0))))
  case first =>
    go_region_law (first | (go_simp; go_at_call 162; refine (clone_Rng A c l _ (Kd.now HR.out (zb.trans inferInstance)) (by omega)).mono ?_; rintro e w1 ⟨v, rfl, HO⟩; obtain ⟨A2, c2, rfl⟩ := HO.len; have q := Bel.trans (inferInstance : Bel wz _) HO.bel) | (go_simp; go_at_call 163; refine (clone_nil _).mono ?_; rintro e w2 ⟨rfl, HB2⟩; have q := Bel.trans (inferInstance : Bel wz _) HB2))
    all_goals
      have qa : Bel w1 w2 := Bel.trans (by assumption) HB2
      have qz : Bel wz w2 := by assumption
      go_wp2_with fail
      go_meet
      exact ⟨_, lent_end (Acc.low HO (zb.trans inferInstance)) qa (Nat.le_refl _) ((qz.out.block _ (blk_lt Z0.out)).trans Z0.out) ((qz.out.block _ (blk_lt Z1.out)).trans Z1.out)⟩
  case rest =>
    obtain ⟨v, HA, HH⟩ := hcut
    obtain ⟨A2, c2, rfl⟩ := HA.out.len
    have y0 := HH.out.1
    have y1 := HH.out.2
    have m0 : wc.cell? ⟨w.heap.size, 0, none⟩ = some (.bool false) := row_cell y0 0
    have m1 : wc.cell? ⟨w.heap.size, 1, none⟩ = some (.slice A2 l.length c2) := row_cell y0 1
    have m2 : wc.cell? ⟨w.heap.size, 2, none⟩ = some (.slice none 0 0) := row_cell y0 2
    have m3 : wc.cell? ⟨w.heap.size, 3, none⟩ = some (.slice none 0 0) := row_cell y0 3
    have m4 : wc.cell? ⟨w.heap.size, 4, none⟩ = some (.int .i64 0) := row_cell y0 4
    have m5 : wc.cell? ⟨w.heap.size, 5, none⟩ = some (.int .i64 0) := row_cell y0 5
    have n0 : wc.cell? ⟨w.heap.size + 1, 0, none⟩ = some (.bool false) := row_cell y1 0
    have o0 := frozen_of_row wc (w.heap.size + 1) 0 _ _ y1
    have n1 : wc.cell? ⟨w.heap.size + 1, 1, none⟩ = some (.slice none 0 0) := row_cell y1 1
    have o1 := frozen_of_row wc (w.heap.size + 1) 1 _ _ y1
    have n2 : wc.cell? ⟨w.heap.size + 1, 2, none⟩ = some (.slice none 0 0) := row_cell y1 2
    have o2 := frozen_of_row wc (w.heap.size + 1) 2 _ _ y1
    have n3 : wc.cell? ⟨w.heap.size + 1, 3, none⟩ = some (.slice none 0 0) := row_cell y1 3
    have o3 := frozen_of_row wc (w.heap.size + 1) 3 _ _ y1
    have n4 : wc.cell? ⟨w.heap.size + 1, 4, none⟩ = some (.int .i64 0) := row_cell y1 4
    have o4 := frozen_of_row wc (w.heap.size + 1) 4 _ _ y1
    have n5 : wc.cell? ⟨w.heap.size + 1, 5, none⟩ = some (.int .i64 0) := row_cell y1 5
    have o5 := frozen_of_row wc (w.heap.size + 1) 5 _ _ y1
    clear k1 k2 k3 f1 f2 f3 y0 y1
    go_wp2
    exact lent_ret HH.out.2 HA.out
end Go.Proofs.YtkdedpofghlmoaaGreatDoor
set_option linter.unusedVariables false
set_option linter.unusedSimpArgs false
namespace Go.Proofs.YtkdedpofghlmoaaGreatDoor
open Go.RowKit Go.Proofs.YtkdedpofghlmoaaGreatDoorW.PrintWords
theorem Bel.setSame {W : World} {g t j : Nat} {cs : Array Value} {v : Value} (h : W.heap[g]? = some (.cells cs t (0, 0))) (hj : cs[j]? = some v) : Bel W (W.setCell ⟨g, j, none⟩ v) := by
  have h1 := heap_setCell_same W g j cs t v h
  have h2 : cs.setIfInBounds j v = cs := by
    apply Array.ext_getElem?
    intro i
    rw [Array.getElem?_setIfInBounds]
    split
    · rename_i e
      subst e
      have := (Array.getElem?_eq_some_iff.1 hj).1
      rw [if_pos this, hj]
    · rfl
  rw [h2] at h1
  refine ⟨⟨rfl, rfl, rfl, by simp [World.setCell], fun k _ => ?_⟩⟩
  by_cases hk : k = g
  · rw [hk, h1, h]
  · exact Below.heap_setCell W _ _ _ hk
abbrev workC (n : ByteArray) (A D : Value) (ch fl : Bool) : Array Value := #[.string n, A, D, .bool ch, .bool fl]
set_option maxHeartbeats 1000000 in
theorem work_Drop (g : Nat) (name : ByteArray) (A D : Value) (ch : Bool) (v : Int) (st : Bool) (n x : Int) (B : Option Addr) (m c : Nat) (w : World) (hw : w.heap[g]? = some (.cells (workC name A D ch false) 126 (0, 0))) (hv : v < 0) (hn : (n == x) = false) :
    Calls Tryz.prog 149 #[.pointer (some ⟨g, 0, none⟩), .agg #[.int .i64 v, .bool st, .int .i64 n, .slice B m c], .int .i64 x] w fun e w' => e = .returned (.tuple #[]) ∧ Bel w w' := by
  have hz : (w.alloc (.cells #[.int .i64 v, .bool st, .int .i64 n, .slice B m c] 64)).heap[g]? = some (.cells (workC name A D ch false) 126 (0, 0)) := (heap_alloc_old _ _ (blk_lt hw)).trans hw
  have c4 : (w.alloc (.cells #[.int .i64 v, .bool st, .int .i64 n, .slice B m c] 64)).cell? ⟨g, 4, none⟩ = some (.bool false) := row_cell hz 4
  have f4 := frozen_of_row _ g 4 _ _ hz
  have HZ := Lib.hid hz
  clear hz hw
  go_enter Tryz.func149, Tryz.ntmps149
  go_wp2
  go_returns
  exact ⟨rfl, Bel.trans inferInstance (Bel.setSame HZ.out rfl)⟩
set_option maxRecDepth 100000 in
set_option maxHeartbeats 2000000 in
theorem tighten_div (g : Nat) (A : Option Addr) (c : Nat) (D : Value) (ch : Bool) (a0 a2 : Arg) (y : Int) (w : World) (hw : w.heap[g]? = some (.cells (workC nDiv (.slice A 3 c) D ch false) 126 (0, 0))) (hy : (y == 0) = false) (ha : kArg.C w A 3 [a0, tA (cT y), a2]) :
    Calls Tryz.prog 85 #[.pointer (some ⟨g, 0, none⟩)] w fun e w' => e = .returned (.tuple #[]) ∧ Bel w w' := by
  have k0 : w.cell? ⟨g, 0, none⟩ = some (.string nDiv) := row_cell hw 0
  have k1 : w.cell? ⟨g, 1, none⟩ = some (.slice A 3 c) := row_cell hw 1
  obtain ⟨ad, A1, c1, rfl, _, e1, _, hC⟩ := Arg.nth ha (k := 1) (x := tA (cT y)) rfl
  obtain ⟨td, A3, c3, rfl, t0, t1, t2, t3, _, _⟩ := Term.nth hC (k := 0) (x := cT y) rfl
  change w.cell? ⟨ad.block, ad.off + 3, none⟩ = some (.slice (some td) 1 c1) at e1
  change w.cell? td = some (.int .i64 (-1)) at t0
  change w.cell? ⟨td.block, td.off + 1, none⟩ = some (.bool false) at t1
  change w.cell? ⟨td.block, td.off + 2, none⟩ = some (.int .i64 y) at t2
  change w.cell? ⟨td.block, td.off + 3, none⟩ = some (.slice A3 0 c3) at t3
  have HW := Lib.hid hw
  have HY := Lib.hid hy
  unfold nDiv at k0
  clear hw ha hC hy
  go_enter Tryz.func85, Tryz.ntmps85
  go_wp2_with (go_at_call 149; refine (work_Drop g nDiv (.slice (some ad) 3 c) D ch (-1) false y 0 A3 0 c3 _ HW.out (by decide) HY.out).mono ?_; rintro e w1 ⟨rfl, HB1⟩)
  go_returns
  exact ⟨rfl, HB1⟩
set_option maxRecDepth 100000 in
set_option maxHeartbeats 2000000 in
theorem tighten_pow (g : Nat) (A : Value) (D : Value) (ch : Bool) (w : World) (hA : ∃ B n c, A = .slice B n c) (hw : w.heap[g]? = some (.cells (workC nPow A D ch false) 126 (0, 0))) :
    Calls Tryz.prog 85 #[.pointer (some ⟨g, 0, none⟩)] w fun e w' => e = .returned (.tuple #[]) ∧ Bel w w' := by
  obtain ⟨B, n, c, rfl⟩ := hA
  have k0 : w.cell? ⟨g, 0, none⟩ = some (.string nPow) := row_cell hw 0
  have k1 : w.cell? ⟨g, 1, none⟩ = some (.slice B n c) := row_cell hw 1
  unfold nPow at k0
  clear hw
  go_enter Tryz.func85, Tryz.ntmps85
  go_wp2
  go_returns
  exact ⟨rfl, inferInstance⟩
end Go.Proofs.YtkdedpofghlmoaaGreatDoor
