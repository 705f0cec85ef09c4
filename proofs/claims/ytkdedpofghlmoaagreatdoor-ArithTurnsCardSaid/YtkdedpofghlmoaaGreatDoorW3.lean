/- The walk of Work.last over one open variable. No statement is proved here. -/
import Derived.Test.YtkdedpofghlmoaaGreatDoorW2
set_option linter.unusedVariables false
set_option linter.unusedSimpArgs false
namespace Go.Proofs.YtkdedpofghlmoaaGreatDoor
open Go.RowKit Go.Proofs.YtkdedpofghlmoaaGreatDoorW.PrintWords
theorem make1 (w : World) : (Instr.makeSlice 25 (.int .i64 1) (.int .i64 1)).run Tryz.prog w = .ok (.slice (some ⟨w.heap.size, 0, none⟩) 1 1) (w.alloc (.cells (valC 0) 53)) := by kernel_rfl
set_option maxRecDepth 100000 in
set_option maxHeartbeats 4000000 in
theorem last_err {w : World} {n : ByteArray} {A : Option Addr} {c : Nat} {ch fl : Bool} {args : List Arg} {mf g : Nat} {p : Int → Bool} {e : Int} {dd : Addr} {dc : Nat} {RA : Option Addr} {l : List Rng} {rc : Nat} {va : Option Addr} {vc : Nat}
    (hlc : l.length ≤ rc) (hR : kRng.C w RA l.length l) (d0 : w.cell? dd = some (.bool false)) (d1 : w.cell? ⟨dd.block, dd.off + 1, none⟩ = some (.slice RA l.length rc))
    (d2 : w.cell? ⟨dd.block, dd.off + 2, none⟩ = some (.slice none 0 0)) (d3 : w.cell? ⟨dd.block, dd.off + 3, none⟩ = some (.slice none 0 0)) (d4 : w.cell? ⟨dd.block, dd.off + 4, none⟩ = some (.int .i64 0)) (d5 : w.cell? ⟨dd.block, dd.off + 5, none⟩ = some (.int .i64 0))
    (hml : ML w) (ha : kArg.C w A args.length args) (hal : ∀ a ∈ args, a.l.length ≤ 1000) (han : args.length ≤ 1000)
    (htr : truthsL n = []) (hf : (findR n).form.size < 4294967281) (hp : ∀ p ∈ partsL (findR n).form, p.size ≤ 1000) (hw : w.heap[g]? = some (.cells (workC n (.slice A args.length c) (.slice (some dd) 1 dc) ch fl) 126 (0, 0)))
    (HM : ∀ x, MeansIs mf n (valuesL [⟨false, x, []⟩] args) (p x) e) (he : (e == 0) = false) (hne : vals (takenL l) ≠ []) (hvl : (vals (takenL l)).length ≤ 1000000) (hv : (Kd.int .i64).C w va 1 [0]) (hs1 : 1 < sizeL (takenL l)) (hs2 : sizeL (takenL l) ≤ 1000) :
    Calls Tryz.prog 109 #[.pointer (some ⟨g, 0, none⟩), .slice va 1 vc, .func (.func mf) #[] #[]] w fun e' w' => e' = .returned (.int .i64 e) ∧ Bel w w' := by
  obtain ⟨vd, rfl, v0⟩ := Int.nth hv (k := 0) (x := 0) rfl
  change w.cell? vd = some (.int .i64 0) at v0
  have HL := Lib.hid (fun (gv cv : Nat) (y : Int) (W : World) (hb : Bel w W) (hrow : W.heap[gv]? = some (.cells (valC y) 53 (0, 0))) (hgv : w.heap.size ≤ gv) => work_left (ok := false) (mf := mf) (p := p) (e := e) (cv := cv) (y := y) hlc hR d0 d1 hml ha hal han htr hf hp hw (fun x => by simpa using HM x) he (fun _ => hne) hvl W hb hrow hgv)
  have w2 : ∀ (V : World) [Bel w V], V.cell? ⟨g, 2, none⟩ = some (.slice (some dd) 1 dc) := fun V h => h.cell (row_cell hw 2)
  replace d0 : ∀ (V : World) [Bel w V], V.cell? dd = some (.bool false) := fun V h => h.cell d0
  replace d1 : ∀ (V : World) [Bel w V], V.cell? ⟨dd.block, dd.off + 1, none⟩ = some (.slice RA l.length rc) := fun V h => h.cell d1
  replace d2 : ∀ (V : World) [Bel w V], V.cell? ⟨dd.block, dd.off + 2, none⟩ = some (.slice none 0 0) := fun V h => h.cell d2
  replace d3 : ∀ (V : World) [Bel w V], V.cell? ⟨dd.block, dd.off + 3, none⟩ = some (.slice none 0 0) := fun V h => h.cell d3
  replace d4 : ∀ (V : World) [Bel w V], V.cell? ⟨dd.block, dd.off + 4, none⟩ = some (.int .i64 0) := fun V h => h.cell d4
  replace d5 : ∀ (V : World) [Bel w V], V.cell? ⟨dd.block, dd.off + 5, none⟩ = some (.int .i64 0) := fun V h => h.cell d5
  replace v0 : ∀ (V : World) [Bel w V], V.cell? vd = some (.int .i64 0) := fun V h => h.cell v0
  have HRR := Lib.hid hR
  have HE := Lib.hid he
  clear hR hml ha hal htr hp hw HM hne hvl hv he
  obtain ⟨wz, hwz⟩ : ∃ wz, w.alloc (.cells (valC 0) 53) = wz := ⟨_, rfl⟩
  have hmk := make1 w
  rw [hwz] at hmk
  have zb : Bel w wz := hwz ▸ inferInstance
  have z0 : wz.heap[w.heap.size]? = some (.cells (valC 0) 53 (0, 0)) := hwz ▸ heap_alloc_new _ _
  have r0 : ∀ (V : World) [Bel wz V], V.cell? ⟨w.heap.size, 0, none⟩ = some (.bool false) := fun V h => h.cell (row_cell z0 0)
  have r1 : ∀ (V : World) [Bel wz V], V.cell? ⟨w.heap.size, 1, none⟩ = some (.int .i64 0) := fun V h => h.cell (row_cell z0 1)
  have r2 : ∀ (V : World) [Bel wz V], V.cell? ⟨w.heap.size, 2, none⟩ = some (.slice none 0 0) := fun V h => h.cell (row_cell z0 2)
  have f0 : ∀ (V : World) [Bel wz V], V.frozen? ⟨w.heap.size, 0, none⟩ = false := fun V h => frozen_of_row V _ 0 _ _ ((h.out.block _ (blk_lt z0)).trans z0)
  have f1 : ∀ (V : World) [Bel wz V], V.frozen? ⟨w.heap.size, 1, none⟩ = false := fun V h => frozen_of_row V _ 1 _ _ ((h.out.block _ (blk_lt z0)).trans z0)
  have f2 : ∀ (V : World) [Bel wz V], V.frozen? ⟨w.heap.size, 2, none⟩ = false := fun V h => frozen_of_row V _ 2 _ _ ((h.out.block _ (blk_lt z0)).trans z0)
  have Z0 := Lib.hid z0
  obtain ⟨sz, hsz⟩ : ∃ sz, sizeL (takenL l) = sz := ⟨_, rfl⟩
  rw [hsz] at hs1 hs2
  obtain ⟨mn, hmn⟩ : ∃ mn, (nextL (-1000000) (takenL l)).1 = mn := ⟨_, rfl⟩
  have HSZ := Lib.hid hsz
  have HMN := Lib.hid hmn
  clear hwz z0 hsz hmn
  go_enter Tryz.func109, Tryz.ntmps109
  go_wp2_with fail
  refine wp_loop_rounds 2 ?_
  rw [rounds_succ]
  go_wp2_with fail
  refine (tool_count RA l rc _ hlc (Kd.now HRR.out inferInstance)).mono ?_
  rintro e1 w1 ⟨rfl, HB1⟩
  rw [HSZ.out]
  have b1 : Bel w w1 := zb.trans HB1
  go_wp2_with (at_builtin; refine AccN.app (w0 := w1) (Wr := w1) Acc.nil rfl rfl rfl rfl (by simp) inferInstance (by simp) ?_; intro v1 wa HOa hka; clear hka; simp only [List.nil_append] at HOa; obtain ⟨od, co, rfl, og⟩ := HOa.fresh (by simp); simp only [List.length_cons, List.length_nil, Nat.zero_add] at HOa; have ba : Bel w wa := b1.trans HOa.bel; have bza : Bel wz wa := HB1.trans HOa.bel)
  refine (tool_first RA l rc _ hlc (Kd.now HRR.out inferInstance)).mono ?_
  rintro e2 wf ⟨rfl, HBf⟩
  rw [HMN.out]
  have bf : Bel w wf := ba.trans HBf
  have bzf : Bel wz wf := bza.trans HBf
  have hod := Int.nth HOa.C.2.2 (k := 0) (x := 0) rfl
  obtain ⟨od', eo, oc0⟩ := hod
  cases eo
  change wa.cell? ⟨od, 0, none⟩ = some (.int .i64 0) at oc0
  have HOC := Lib.hid oc0
  have HOG := Lib.hid og
  have HBF := Lib.hid HBf
  clear oc0 og HBf HOa
  go_wp2_with fail
  obtain ⟨ws, hws⟩ : ∃ ws, ((wf.setCell ⟨w.heap.size, 0, none⟩ (.bool false)).setCell ⟨w.heap.size, 1, none⟩ (.int .i64 mn)).setCell ⟨w.heap.size, 2, none⟩ (.slice none 0 0) = ws := ⟨_, rfl⟩
  rw [hws]
  have bs : Bel w ws := by
    rw [← hws]
    exact ⟨((bf.out.setCell (p := ⟨w.heap.size, 0, none⟩) (Nat.le_refl _) _).setCell (p := ⟨w.heap.size, 1, none⟩) (Nat.le_refl _) _).setCell (p := ⟨w.heap.size, 2, none⟩) (Nat.le_refl _) _⟩
  have hrow : ws.heap[w.heap.size]? = some (.cells (valC mn) 53 (0, 0)) := hws ▸ set3 ((bzf.out.block _ (blk_lt Z0.out)).trans Z0.out)
  have odlt : od < wa.heap.size := World.block_lt_of_cell? wa ⟨od, 0, none⟩ HOC.out
  have odne : od ≠ w.heap.size := by have := blk_lt Z0.out; have := HB1.out.size; have := HOG.out; omega
  have oc : ws.cell? ⟨od, 0, none⟩ = some (.int .i64 0) := by
    have hh : ws.heap[od]? = wa.heap[od]? := by
      rw [← hws, heap_setCell_other _ _ _ _ odne, heap_setCell_other _ _ _ _ odne, heap_setCell_other _ _ _ _ odne]
      exact HBF.out.out.block _ odlt
    exact (World.cell?_of_block (w := wa) (a := ⟨od, 0, none⟩) hh).trans HOC.out
  replace oc : ∀ (V : World) [Bel ws V], V.cell? ⟨od, 0, none⟩ = some (.int .i64 0) := fun V h => h.cell oc
  have HROW := Lib.hid hrow
  clear hws hrow odlt odne b1 ba bza bf bzf r0 r1 r2 f0 f1 f2 hmk
  rw [rounds_succ]
  go_wp2_with fail
  refine (tool_count RA l rc _ hlc (Kd.now HRR.out inferInstance)).mono ?_
  rintro e3 wg ⟨rfl, HBg⟩
  rw [HSZ.out]
  have bg : Bel w wg := bs.trans HBg
  go_wp2_with fail
  refine (HL.out _ _ mn _ bg ((HBg.out.block _ (blk_lt HROW.out)).trans HROW.out) (Nat.le_refl _)).mono ?_
  rintro e4 wl ⟨hl1, hl2⟩
  rw [if_neg (by simp)] at hl1
  subst hl1
  have he := HE.out
  go_wp2
  go_ret
  exact ⟨rfl, hl2⟩
end Go.Proofs.YtkdedpofghlmoaaGreatDoor
