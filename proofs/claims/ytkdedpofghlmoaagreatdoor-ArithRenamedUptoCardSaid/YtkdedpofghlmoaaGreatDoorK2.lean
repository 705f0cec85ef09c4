/- The walks of cons.table, find, Form, Family. No statement is proved here. -/
import Derived.Test.YtkdedpofghlmoaaGreatDoorK1
set_option linter.unusedVariables false
set_option linter.unusedSimpArgs false
namespace Go.Proofs.YtkdedpofghlmoaaGreatDoor
open Go.RowKit Go.Proofs.YtkdedpofghlmoaaGreatDoorW.PrintWords
noncomputable def tabO : Oper := tabAll.toList.headD default
noncomputable def tabS : Oper := (tabOps.drop 211).headD default
theorem tabO_list : tabAll.toList = [tabO] := by kernel_rfl
theorem tabO_guard : tabO.guard = none := by kernel_rfl
theorem tabO_dst : tabO.dst = some 0 := by kernel_rfl
theorem tabO_op : tabO.op = .alloc 204 := by kernel_rfl
theorem tabS_list : tabOps.drop 211 = [tabS] := by kernel_rfl
theorem tabS_guard : tabS.guard = none := by kernel_rfl
theorem tabS_dst : tabS.dst = none := by kernel_rfl
theorem tabS_op : tabS.op = .store 204 (.tmp 0) (.tmp 211) := by kernel_rfl
theorem tab_body : Tryz.f213.body = some (.seq (.region 0 tabAll false) (.seq (.region 1 tabOps.toArray false) .ret)) := by kernel_rfl
theorem info204 : (Tryz.prog.info? 204).map (fun i => (i.zero, i.size)) = some (some (.agg (Array.replicate 315 (.string ⟨#[]⟩))), 315) := by kernel_rfl
theorem und204 : Tryz.prog.underlying 204 = some (.array 105 162) := by kernel_rfl
theorem tableC_size : tableC.size = 315 := by kernel_rfl
theorem tableC_one : tableC.all (·.oneCell') = true := by kernel_rfl
set_option maxRecDepth 100000 in
theorem cons_table (w : World) : Calls Tryz.prog 213 #[] w fun e w' => e = .returned tableV ∧ Bel w w' := by
  have hz := zero_of_info info204
  refine calls_of_wp Tryz.func213 tab_body ?_
  refine wp_seq (wp_region_list ?_)
  rw [tabO_list]
  refine wpList_val (v := .pointer (some ⟨w.heap.size, 0, none⟩)) (w' := w.alloc (.cells (Array.replicate 315 (.string ⟨#[]⟩)) 204)) tabO_guard ?_ ?_
  · unfold execOp
    rw [tabO_op]
    simp [go_sem, hz.1]
  rw [tabO_dst]
  refine wpList_nil ?_
  refine wp_seq (wp_region_list ?_)
  rw [show tabOps.toArray.toList = tabOps.take 211 ++ tabOps.drop 211 by simp]
  refine wpList_pureRun _ _ _ _ _ _ (tab_run _ _) ?_
  rw [tabS_list]
  have hs := run_storeAt_new (P := Tryz.prog) w 204 (Array.replicate 315 (.string ⟨#[]⟩)) tableC (by rw [hz.2, tableC_size]) (by rw [tableC_size]; simp) tableC_one
  refine wpList_skip (w' := w.alloc (.cells tableC 204)) tabS_guard ?_ ?_
  · unfold execOp
    rw [tabS_op]
    have e0 : Act.eval (tabEnd (.pointer (some ⟨w.heap.size, 0, none⟩)) (w.alloc (.cells (Array.replicate 315 (.string ⟨#[]⟩)) 204))) (.tmp 0) = .pointer (some ⟨w.heap.size, 0, none⟩) := by kernel_rfl
    have e1 := tab_val (.pointer (some ⟨w.heap.size, 0, none⟩)) (w.alloc (.cells (Array.replicate 315 (.string ⟨#[]⟩)) 204))
    simp only [e0, e1, tableV]
    simp [hs]
  rw [tabS_dst]
  refine wpList_nil ?_
  refine wp_ret ?_
  refine bodyPost_ret (v := tableV) (results_cell_row (fn := Tryz.f213) (p := 0) (ty := 204) rfl _ _ w.heap.size 204 tableC (0, 0) _ (tab_ptr _ _) (heap_alloc_new _ _) und204 rfl (by rw [hz.2, tableC_size])) (tab_def _ _) ?_
  exact ⟨rfl, inferInstance⟩
theorem row_cell {W : World} {k : Nat} {cs : Array Value} {t : TypeId} {fr : Nat × Nat} (h : W.heap[k]? = some (.cells cs t fr)) (j : Nat) : W.cell? ⟨k, j, none⟩ = cs[j]? := by
  simp [World.cell?, h]
theorem field162_0 (a b c : Value) (w : World) : (Instr.field 162 (.agg #[a, b, c]) 0).run Tryz.prog w = .ok (.agg #[a, b]) w := by kernel_rfl
theorem field162_1 (a b c : Value) (w : World) : (Instr.field 162 (.agg #[a, b, c]) 1).run Tryz.prog w = .ok c w := by kernel_rfl
theorem field160_0 (a b : Value) (w : World) : (Instr.field 160 (.agg #[a, b]) 0).run Tryz.prog w = .ok a w := by kernel_rfl
theorem field160_1 (a b : Value) (w : World) : (Instr.field 160 (.agg #[a, b]) 1).run Tryz.prog w = .ok b w := by kernel_rfl
def findT (name : ByteArray) : List Row → Row
  | [] => ⟨⟨#[]⟩, ⟨#[]⟩, ⟨#[]⟩⟩
  | r :: l => if r.name.toList == name.toList then r else findT name l
def findR (name : ByteArray) : Row := findT name rowsT
theorem cells3_at : ∀ (l : List Row) (k : Nat) (r : Row), l[k]? = some r → ((cells3 l).drop (k * 3)).take 3 = [.string r.name, .string r.form, .string r.family]
  | [], k, r, h => by simp at h
  | x :: l, 0, r, h => by
    obtain rfl : x = r := by simpa using h
    rfl
  | x :: l, k + 1, r, h => by
    have := cells3_at l k r (by simpa using h)
    rw [Nat.add_mul]
    simpa [cells3] using this
theorem table_part (k : Nat) (r : Row) (hk : rowsT[k]? = some r) : tableC.extract (k * 3) (k * 3 + 3) = #[.string r.name, .string r.form, .string r.family] := by
  have := cells3_at rowsT k r hk
  apply Array.ext'
  rw [Array.toList_extract]
  simpa [tableC, List.extract_eq_take_drop] using this
theorem size162 : (Tryz.prog.info? 162).map (·.size) = some 3 := by kernel_rfl
theorem table_index (k : Nat) (r : Row) (hk : rowsT[k]? = some r) (w : World) : (Instr.index 204 tableV (.int .i64 k)).run Tryz.prog w = .ok (.agg #[.string r.name, .string r.form, .string r.family]) w := by
  have hlt : k < 105 := (List.getElem?_eq_some_iff.1 hk).1
  have h0 : (0 : Int) ≤ k ∧ (k : Int) < (105 : Nat) := by omega
  have hs := size162
  cases hq : Tryz.prog.info? 162 with
  | none => simp [hq] at hs
  | some i =>
    have hsz : i.size = 3 := by simpa [hq] using hs
    simp [Instr.index, asIntOf, run_underlying und204, tableV, part, run_underlying Tryz.underlying162, sizeOf, typeInfo, hq, hsz, isAgg, table_part k r hk]
    intro h
    omega
theorem set3 {W : World} {g : Nat} {a b c x y z : Value} {t : TypeId} (h : W.heap[g]? = some (.cells #[a, b, c] t (0, 0))) :
    (((W.setCell ⟨g, 0, none⟩ x).setCell ⟨g, 1, none⟩ y).setCell ⟨g, 2, none⟩ z).heap[g]? = some (.cells #[x, y, z] t (0, 0)) := by
  have h1 := heap_setCell_same W g 0 _ t x h
  have h2 := heap_setCell_same _ g 1 _ t y h1
  have h3 := heap_setCell_same _ g 2 _ t z h2
  simpa using h3
theorem find_ret {w W : World} {tm : Array Value} {a b c : Value} {x y z : ByteArray} (h : W.heap[w.heap.size]? = some (.cells #[a, b, c] 162 (0, 0))) (hB : Below w.heap.size w W) (ht : tm.getD 2 undef = .pointer (some ⟨w.heap.size, 0, none⟩) := by rfl) :
    bodyPost Tryz.prog Tryz.f150 (fun e w' => e = .returned (.agg #[.string x, .string y, .string z]) ∧ Bel w w') Exit.ret { tmps := tm, defers := [] }
      (((W.setCell ⟨w.heap.size, 0, none⟩ (.string x)).setCell ⟨w.heap.size, 1, none⟩ (.string y)).setCell ⟨w.heap.size, 2, none⟩ (.string z)) := by
  refine bodyPost_ret (v := .agg #[.string x, .string y, .string z]) (results_cell_row (fn := Tryz.f150) (p := 2) (ty := 162) rfl _ _ w.heap.size 162 _ (0, 0) _ ht (set3 h) Tryz.underlying162 rfl size162) rfl ?_
  exact ⟨rfl, ⟨((hB.setCell (p := ⟨w.heap.size, 0, none⟩) (Nat.le_refl _) _).setCell (p := ⟨w.heap.size, 1, none⟩) (Nat.le_refl _) _).setCell (p := ⟨w.heap.size, 2, none⟩) (Nat.le_refl _) _⟩⟩
set_option maxRecDepth 100000 in
set_option maxHeartbeats 4000000 in
theorem cons_find (name : ByteArray) (w : World) :
    Calls Tryz.prog 150 #[.string name] w fun e w' => e = .returned (.agg #[.string (findR name).name, .string (findR name).form, .string (findR name).family]) ∧ Bel w w' := by
  obtain ⟨f, hf⟩ : ∃ f, findR name = f := ⟨_, rfl⟩
  rw [hf]
  have HF := Lib.hid hf
  clear hf
  have q0 := field162_0
  have q1 := field160_0
  go_enter Tryz.func150, Tryz.ntmps150
  go_wp2_with fail
  refine (cons_table _).mono ?_
  rintro e w1 ⟨rfl, HB1⟩
  have HI := Lib.hid (show Below w.heap.size w w1 ∧ w1.heap[w.heap.size]? = some (.cells #[.string ⟨#[]⟩, .string ⟨#[]⟩, .string ⟨#[]⟩] 162 (0, 0)) from ⟨(Bel.trans (inferInstance : Bel w (w.alloc _)) HB1).out, (HB1.out.block _ (by simp)).trans (heap_alloc_new _ _)⟩)
  clear HB1
  go_wp2_with fail
  go_loopw [5] (fun i wr => ∃ (k : Nat), k ≤ 105 ∧ i = .int .i64 k ∧ Hid (findT name (rowsT.drop k) = f) ∧ Hid (Below w.heap.size w wr ∧ wr.heap[w.heap.size]? = some (.cells #[.string ⟨#[]⟩, .string ⟨#[]⟩, .string ⟨#[]⟩] 162 (0, 0)))) (fun i _ => 105 - (intOf i).toNat)
  case atStart => exact ⟨0, by omega, rfl, HF, HI⟩
  case round =>
    obtain ⟨k, hk, rfl, HX, HB⟩ := hrel
    by_cases hlt : k < 105
    · obtain ⟨r, hr⟩ : ∃ r, rowsT[k]? = some r := ⟨rowsT[k]'hlt, List.getElem?_eq_getElem hlt⟩
      have hix := table_index k r hr
      have HX' := HX.out
      rw [drop_at hr, findT] at HX'
      clear HX hr
      go_wp2_with fail
      refine (cons_table _).mono ?_
      rintro e w2 ⟨rfl, HB2⟩
      have HI2 := Lib.hid (show Below w.heap.size w w2 ∧ w2.heap[w.heap.size]? = some (.cells #[.string ⟨#[]⟩, .string ⟨#[]⟩, .string ⟨#[]⟩] 162 (0, 0)) from ⟨HB.out.1.trans (HB2.out.mono HB.out.1.size), (HB2.out.block _ (blk_lt HB.out.2)).trans HB.out.2⟩)
      clear HB2 HB
      cases hn : (r.name.toList == name.toList) with
      | true =>
        rw [if_pos hn] at HX'
        subst HX'
        go_wp2_with fail
        refine (cons_table _).mono ?_
        rintro e w3 ⟨rfl, HB3⟩
        have hb3 : w3.heap[w.heap.size]? = some (.cells #[.string ⟨#[]⟩, .string ⟨#[]⟩, .string ⟨#[]⟩] 162 (0, 0)) := (HB3.out.block _ (blk_lt HI2.out.2)).trans HI2.out.2
        have hB3 := HI2.out.1.trans (HB3.out.mono HI2.out.1.size)
        have f0 := frozen_of_row w3 w.heap.size 0 _ _ hb3
        have f1 := frozen_of_row w3 w.heap.size 1 _ _ hb3
        have f2 := frozen_of_row w3 w.heap.size 2 _ _ hb3
        have d0 := (row_cell hb3 0).trans (show _ = some (.string ⟨#[]⟩) from rfl)
        have d1 := (row_cell hb3 1).trans (show _ = some (.string ⟨#[]⟩) from rfl)
        have d2 := (row_cell hb3 2).trans (show _ = some (.string ⟨#[]⟩) from rfl)
        have HH := Lib.hid hb3
        have HBB := Lib.hid hB3
        clear hb3 hB3
        go_wp2
        exact find_ret HH.out HBB.out
      | false =>
        rw [if_neg (by simp [hn])] at HX'
        replace HX' := Lib.hid HX'
        go_wp2
        go_roundw
        case rel => exact ⟨k + 1, by omega, by go_num, HX', HI2⟩
        case measure => simp [intOf]; omega
    · obtain rfl : k = 105 := by omega
      have hb3 := HB.out.2
      have f0 := frozen_of_row wr w.heap.size 0 _ _ hb3
      have f1 := frozen_of_row wr w.heap.size 1 _ _ hb3
      have f2 := frozen_of_row wr w.heap.size 2 _ _ hb3
      have d0 := (row_cell hb3 0).trans (show _ = some (.string ⟨#[]⟩) from rfl)
      have d1 := (row_cell hb3 1).trans (show _ = some (.string ⟨#[]⟩) from rfl)
      have d2 := (row_cell hb3 2).trans (show _ = some (.string ⟨#[]⟩) from rfl)
      have HH := Lib.hid hb3
      have HBB := Lib.hid HB.out.1
      have hf : f = ⟨⟨#[]⟩, ⟨#[]⟩, ⟨#[]⟩⟩ := by
        have := HX.out
        rw [List.drop_eq_nil_of_le (by decide)] at this
        exact this.symm
      subst hf
      clear hb3 HX HF HI HB
      go_wp2
      exact find_ret HH.out HBB.out
theorem cons_Form (name : ByteArray) (w : World) : Calls Tryz.prog 151 #[.string name] w fun e w' => e = .returned (.string (findR name).form) ∧ Bel w w' := by
  have q0 := field162_0
  have q1 := field160_1
  go_enter Tryz.func151, Tryz.ntmps151
  go_wp2_with (go_at_call 150; refine (cons_find name _).mono ?_; rintro e w1 ⟨rfl, HB⟩)
  go_ret
  exact ⟨rfl, HB⟩
theorem cons_Family (name : ByteArray) (w : World) : Calls Tryz.prog 86 #[.string name] w fun e w' => e = .returned (.string (findR name).family) ∧ Bel w w' := by
  have q0 := field162_1
  go_enter Tryz.func86, Tryz.ntmps86
  go_wp2_with (go_at_call 150; refine (cons_find name _).mono ?_; rintro e w1 ⟨rfl, HB⟩)
  go_ret
  exact ⟨rfl, HB⟩
end Go.Proofs.YtkdedpofghlmoaaGreatDoor
