/- The walk of Work.last over one open variable of which one value is left. No statement is proved here. -/
import Derived.Test.YtkdedpofghlmoaaGreatDoorW3
set_option linter.unusedVariables false
set_option linter.unusedSimpArgs false
namespace Go.Proofs.YtkdedpofghlmoaaGreatDoor
open Go.RowKit Go.Proofs.YtkdedpofghlmoaaGreatDoorW.PrintWords
/-- One domain has been made smaller: to one value. -/
def LastPost (w : World) (gd : Nat) (q : Int) (e' : Ending) (w' : World) : Prop :=
  e' = .returned (.int .i64 0) ∧ ∃ gr cr, 1 ≤ cr ∧ kRng.C w' (some ⟨gr, 0, none⟩) 1 [⟨q, q⟩] ∧ w'.cell? ⟨gd, 0, none⟩ = some (.bool false) ∧ w'.cell? ⟨gd, 1, none⟩ = some (.slice (some ⟨gr, 0, none⟩) 1 cr) ∧ w'.cell? ⟨gd, 2, none⟩ = some (.slice none 0 0) ∧ w'.cell? ⟨gd, 3, none⟩ = some (.slice none 0 0) ∧
    w'.cell? ⟨gd, 4, none⟩ = some (.int .i64 0) ∧ w'.cell? ⟨gd, 5, none⟩ = some (.int .i64 0) ∧ w.grownBy w' (some gd)
theorem last_post {w ws wh : World} {gd gr cr : Nat} {q : Int} {dcs : Array Value} {a1 a2 a3 a4 a5 a0 : Value} (hb : Bel w wh) (hd : w.heap[gd]? = some (.cells dcs 49 (0, 0))) (z0 : wh.cell? ⟨gd, 0, none⟩ = some a0) (z1 : wh.cell? ⟨gd, 1, none⟩ = some a1) (z2 : wh.cell? ⟨gd, 2, none⟩ = some a2) (z3 : wh.cell? ⟨gd, 3, none⟩ = some a3) (z4 : wh.cell? ⟨gd, 4, none⟩ = some a4) (z5 : wh.cell? ⟨gd, 5, none⟩ = some a5)
    (hs : w.heap.size ≤ ws.heap.size) (hgr : ws.heap.size ≤ gr) (hcr : 1 ≤ cr) (hC : kRng.C wh (some ⟨gr, 0, none⟩) 1 [⟨q, q⟩]) :
    LastPost w gd q (.returned (.int .i64 0)) ((((((wh.setCell ⟨gd, 0, none⟩ (.bool false)).setCell ⟨gd, 1, none⟩ (.slice (some ⟨gr, 0, none⟩) 1 cr)).setCell ⟨gd, 2, none⟩ (.slice none 0 0)).setCell ⟨gd, 3, none⟩ (.slice none 0 0)).setCell ⟨gd, 4, none⟩ (.int .i64 0)).setCell ⟨gd, 5, none⟩ (.int .i64 0)) := by
  have hlt := blk_lt hd
  have ne : gr ≠ gd := by omega
  have hk : ∀ k, k ≠ gd → ((((((wh.setCell ⟨gd, 0, none⟩ (.bool false)).setCell ⟨gd, 1, none⟩ (.slice (some ⟨gr, 0, none⟩) 1 cr)).setCell ⟨gd, 2, none⟩ (.slice none 0 0)).setCell ⟨gd, 3, none⟩ (.slice none 0 0)).setCell ⟨gd, 4, none⟩ (.int .i64 0)).setCell ⟨gd, 5, none⟩ (.int .i64 0)).heap[k]? = wh.heap[k]? := by
    intro k hne
    rw [heap_setCell_other _ _ _ _ hne, heap_setCell_other _ _ _ _ hne, heap_setCell_other _ _ _ _ hne, heap_setCell_other _ _ _ _ hne, heap_setCell_other _ _ _ _ hne, heap_setCell_other _ _ _ _ hne]
  refine ⟨rfl, gr, cr, hcr, C_move hC (fun x c h => by rw [kRng_open h]; exact kRng_mk _ _) (hk gr ne), ?_, ?_, ?_, ?_, ?_, ?_, ⟨?_, ?_, ?_, ?_, fun k h1 h2 => (hk k (fun e => h2 (by rw [e]))).trans (hb.out.block k h1)⟩⟩
  · simp [World.cell?_setCell_other, World.cell?_setCell_same', z0, z1, z2, z3, z4, z5]
  · simp [World.cell?_setCell_other, World.cell?_setCell_same', z0, z1, z2, z3, z4, z5]
  · simp [World.cell?_setCell_other, World.cell?_setCell_same', z0, z1, z2, z3, z4, z5]
  · simp [World.cell?_setCell_other, World.cell?_setCell_same', z0, z1, z2, z3, z4, z5]
  · simp [World.cell?_setCell_other, World.cell?_setCell_same', z0, z1, z2, z3, z4, z5]
  · simp [World.cell?_setCell_other, World.cell?_setCell_same', z0, z1, z2, z3, z4, z5]
  · have := hb.out.os
    simpa [World.setCell] using this
  · have := hb.out.tape
    simpa [World.setCell] using this
  · have := hb.out.output
    simpa [World.setCell] using this
  · have := hb.out.size
    simpa [World.setCell] using this
set_option maxRecDepth 100000 in
set_option maxHeartbeats 4000000 in
theorem last_one {w : World} {n : ByteArray} {A : Option Addr} {c : Nat} {ch : Bool} {args : List Arg} {mf g : Nat} {p : Int → Bool} {q : Int} {gd : Nat} {dcs : Array Value} {dc : Nat} {RA : Option Addr} {l : List Rng} {rc : Nat} {va : Option Addr} {vc : Nat}
    (hlc : l.length ≤ rc) (hR : kRng.C w RA l.length l) (d0 : w.cell? ⟨gd, 0, none⟩ = some (.bool false)) (d1 : w.cell? ⟨gd, 1, none⟩ = some (.slice RA l.length rc))
    (d2 : w.cell? ⟨gd, 2, none⟩ = some (.slice none 0 0)) (d3 : w.cell? ⟨gd, 3, none⟩ = some (.slice none 0 0)) (d4 : w.cell? ⟨gd, 4, none⟩ = some (.int .i64 0)) (d5 : w.cell? ⟨gd, 5, none⟩ = some (.int .i64 0))
    (hml : ML w) (ha : kArg.C w A args.length args) (hal : ∀ a ∈ args, a.l.length ≤ 1000) (han : args.length ≤ 1000)
    (htr : truthsL n = []) (hf : (findR n).form.size < 4294967281) (hp : ∀ p ∈ partsL (findR n).form, p.size ≤ 1000) (hw : w.heap[g]? = some (.cells (workC n (.slice A args.length c) (.slice (some ⟨gd, 0, none⟩) 1 dc) ch false) 126 (0, 0)))
    (HM : ∀ x, MeansIs mf n (valuesL [⟨false, x, []⟩] args) (p x) 0) (hq : leftL p (vals (takenL l)) = [⟨false, q, []⟩]) (hiq : inB q = true) (hdd : w.heap[gd]? = some (.cells dcs 49 (0, 0))) (hvl : (vals (takenL l)).length ≤ 1000000) (hv : (Kd.int .i64).C w va 1 [0]) (hs1 : 1 < sizeL (takenL l)) (hs2 : sizeL (takenL l) ≤ 1000) :
    Calls Tryz.prog 109 #[.pointer (some ⟨g, 0, none⟩), .slice va 1 vc, .func (.func mf) #[] #[]] w (LastPost w gd q) := by
  obtain ⟨vd, rfl, v0⟩ := Int.nth hv (k := 0) (x := 0) rfl
  change w.cell? vd = some (.int .i64 0) at v0
  have HL := Lib.hid (fun (gv cv : Nat) (y : Int) (W : World) (hb : Bel w W) (hrow : W.heap[gv]? = some (.cells (valC y) 53 (0, 0))) (hgv : w.heap.size ≤ gv) => work_left (ok := true) (mf := mf) (p := p) (e := 1) (cv := cv) (y := y) hlc hR d0 d1 hml ha hal han htr hf hp hw (fun x => by simpa using HM x) (by decide) (fun h => by cases h) hvl W hb hrow hgv)
  have w2 : ∀ (V : World) [Bel w V], V.cell? ⟨g, 2, none⟩ = some (.slice (some ⟨gd, 0, none⟩) 1 dc) := fun V h => h.cell (row_cell hw 2)
  replace d0 : ∀ (V : World) [Bel w V], V.cell? ⟨gd, 0, none⟩ = some (.bool false) := fun V h => h.cell d0
  replace d1 : ∀ (V : World) [Bel w V], V.cell? ⟨gd, 1, none⟩ = some (.slice RA l.length rc) := fun V h => h.cell d1
  replace d2 : ∀ (V : World) [Bel w V], V.cell? ⟨gd, 2, none⟩ = some (.slice none 0 0) := fun V h => h.cell d2
  replace d3 : ∀ (V : World) [Bel w V], V.cell? ⟨gd, 3, none⟩ = some (.slice none 0 0) := fun V h => h.cell d3
  replace d4 : ∀ (V : World) [Bel w V], V.cell? ⟨gd, 4, none⟩ = some (.int .i64 0) := fun V h => h.cell d4
  replace d5 : ∀ (V : World) [Bel w V], V.cell? ⟨gd, 5, none⟩ = some (.int .i64 0) := fun V h => h.cell d5
  replace v0 : ∀ (V : World) [Bel w V], V.cell? vd = some (.int .i64 0) := fun V h => h.cell v0
  have HRR := Lib.hid hR
  have g0 : ∀ (V : World) [Bel w V], V.frozen? ⟨gd, 0, none⟩ = false := fun V h => frozen_of_row V _ 0 _ _ ((h.out.block _ (blk_lt hdd)).trans hdd)
  have g1 : ∀ (V : World) [Bel w V], V.frozen? ⟨gd, 1, none⟩ = false := fun V h => frozen_of_row V _ 1 _ _ ((h.out.block _ (blk_lt hdd)).trans hdd)
  have g2 : ∀ (V : World) [Bel w V], V.frozen? ⟨gd, 2, none⟩ = false := fun V h => frozen_of_row V _ 2 _ _ ((h.out.block _ (blk_lt hdd)).trans hdd)
  have g3 : ∀ (V : World) [Bel w V], V.frozen? ⟨gd, 3, none⟩ = false := fun V h => frozen_of_row V _ 3 _ _ ((h.out.block _ (blk_lt hdd)).trans hdd)
  have g4 : ∀ (V : World) [Bel w V], V.frozen? ⟨gd, 4, none⟩ = false := fun V h => frozen_of_row V _ 4 _ _ ((h.out.block _ (blk_lt hdd)).trans hdd)
  have g5 : ∀ (V : World) [Bel w V], V.frozen? ⟨gd, 5, none⟩ = false := fun V h => frozen_of_row V _ 5 _ _ ((h.out.block _ (blk_lt hdd)).trans hdd)
  have fw : ∀ (V : World) [Bel w V], V.frozen? ⟨g, 4, none⟩ = false := fun V h => frozen_of_row V _ 4 _ _ ((h.out.block _ (blk_lt hw)).trans hw)
  have w4 : ∀ (V : World) [Bel w V], V.cell? ⟨g, 4, none⟩ = some (.bool false) := fun V h => h.cell (row_cell hw 4)
  have HDD := Lib.hid hdd
  have HW := Lib.hid hw
  have HQ := Lib.hid hq
  have HIQ := Lib.hid hiq
  clear hR hml ha hal htr hp hw HM hvl hv hq hiq hdd
  obtain ⟨wz, hwz⟩ : ∃ wz, w.alloc (.cells (valC 0) 53) = wz := ⟨_, rfl⟩
  have hmk := make1 w
  rw [hwz] at hmk
  have zb : Bel w wz := hwz ▸ inferInstance
  have z0 : wz.heap[w.heap.size]? = some (.cells (valC 0) 53 (0, 0)) := hwz ▸ heap_alloc_new _ _
  have r0 : ∀ (V : World) [Bel wz V], V.cell? ⟨w.heap.size, 0, none⟩ = some (.bool false) := fun V h => h.cell (row_cell z0 0)
  have r1 : ∀ (V : World) [Bel wz V], V.cell? ⟨w.heap.size, 1, none⟩ = some (.int .i64 0) := fun V h => h.cell (row_cell z0 1)
  have r2 : ∀ (V : World) [Bel wz V], V.cell? ⟨w.heap.size, 2, none⟩ = some (.slice none 0 0) := fun V h => h.cell (row_cell z0 2)
  have f0 : ∀ (V : World) [Bel wz V], V.frozen? ⟨w.heap.size, 0, none⟩ = false := fun V h => frozen_of_row V _ 0 _ _ ((h.out.block _ (blk_lt z0)).trans z0)
  have f1 : ∀ (V : World) [Bel wz V], V.frozen? ⟨w.heap.size, 1, none⟩ = false := fun V h => frozen_of_row V _ 1 _ _ ((h.out.block _ (blk_lt z0)).trans z0)
  have f2 : ∀ (V : World) [Bel wz V], V.frozen? ⟨w.heap.size, 2, none⟩ = false := fun V h => frozen_of_row V _ 2 _ _ ((h.out.block _ (blk_lt z0)).trans z0)
  have Z0 := Lib.hid z0
  obtain ⟨sz, hsz⟩ : ∃ sz, sizeL (takenL l) = sz := ⟨_, rfl⟩
  rw [hsz] at hs1 hs2
  obtain ⟨mn, hmn⟩ : ∃ mn, (nextL (-1000000) (takenL l)).1 = mn := ⟨_, rfl⟩
  have HSZ := Lib.hid hsz
  have HMN := Lib.hid hmn
  clear hwz z0 hsz hmn
  go_enter Tryz.func109, Tryz.ntmps109
  go_wp2_with fail
  refine wp_loop_rounds 2 ?_
  rw [rounds_succ]
  go_wp2_with fail
  refine (tool_count RA l rc _ hlc (Kd.now HRR.out inferInstance)).mono ?_
  rintro e1 w1 ⟨rfl, HB1⟩
  rw [HSZ.out]
  have b1 : Bel w w1 := zb.trans HB1
  go_wp2_with (at_builtin; refine AccN.app (w0 := w1) (Wr := w1) Acc.nil rfl rfl rfl rfl (by simp) inferInstance (by simp) ?_; intro v1 wa HOa hka; clear hka; simp only [List.nil_append] at HOa; obtain ⟨od, co, rfl, og⟩ := HOa.fresh (by simp); simp only [List.length_cons, List.length_nil, Nat.zero_add] at HOa; have ba : Bel w wa := b1.trans HOa.bel; have bza : Bel wz wa := HB1.trans HOa.bel)
  refine (tool_first RA l rc _ hlc (Kd.now HRR.out inferInstance)).mono ?_
  rintro e2 wf ⟨rfl, HBf⟩
  rw [HMN.out]
  have bf : Bel w wf := ba.trans HBf
  have bzf : Bel wz wf := bza.trans HBf
  have hod := Int.nth HOa.C.2.2 (k := 0) (x := 0) rfl
  obtain ⟨od', eo, oc0⟩ := hod
  cases eo
  change wa.cell? ⟨od, 0, none⟩ = some (.int .i64 0) at oc0
  have HOC := Lib.hid oc0
  have HOG := Lib.hid og
  have HBF := Lib.hid HBf
  clear oc0 og HBf HOa
  go_wp2_with fail
  obtain ⟨ws, hws⟩ : ∃ ws, ((wf.setCell ⟨w.heap.size, 0, none⟩ (.bool false)).setCell ⟨w.heap.size, 1, none⟩ (.int .i64 mn)).setCell ⟨w.heap.size, 2, none⟩ (.slice none 0 0) = ws := ⟨_, rfl⟩
  rw [hws]
  have bs : Bel w ws := by
    rw [← hws]
    exact ⟨((bf.out.setCell (p := ⟨w.heap.size, 0, none⟩) (Nat.le_refl _) _).setCell (p := ⟨w.heap.size, 1, none⟩) (Nat.le_refl _) _).setCell (p := ⟨w.heap.size, 2, none⟩) (Nat.le_refl _) _⟩
  have hrow : ws.heap[w.heap.size]? = some (.cells (valC mn) 53 (0, 0)) := hws ▸ set3 ((bzf.out.block _ (blk_lt Z0.out)).trans Z0.out)
  have odlt : od < wa.heap.size := World.block_lt_of_cell? wa ⟨od, 0, none⟩ HOC.out
  have odne : od ≠ w.heap.size := by have := blk_lt Z0.out; have := HB1.out.size; have := HOG.out; omega
  have oc : ws.cell? ⟨od, 0, none⟩ = some (.int .i64 0) := by
    have hh : ws.heap[od]? = wa.heap[od]? := by
      rw [← hws, heap_setCell_other _ _ _ _ odne, heap_setCell_other _ _ _ _ odne, heap_setCell_other _ _ _ _ odne]
      exact HBF.out.out.block _ odlt
    exact (World.cell?_of_block (w := wa) (a := ⟨od, 0, none⟩) hh).trans HOC.out
  replace oc : ∀ (V : World) [Bel ws V], V.cell? ⟨od, 0, none⟩ = some (.int .i64 0) := fun V h => h.cell oc
  have HROW := Lib.hid hrow
  clear hws hrow odlt odne b1 ba bza bf bzf r0 r1 r2 f0 f1 f2 hmk
  rw [rounds_succ]
  go_wp2_with fail
  refine (tool_count RA l rc _ hlc (Kd.now HRR.out inferInstance)).mono ?_
  rintro e3 wg ⟨rfl, HBg⟩
  rw [HSZ.out]
  have bg : Bel w wg := bs.trans HBg
  go_upto_region 19 with fail
  go_cut [14, 15] from 16 to 124 (fun a b wx => ∃ Al cl, a = .slice Al 1 cl ∧ b = .int .i64 0 ∧ Hid (1 ≤ cl ∧ kVal.C wx Al 1 [⟨false, q, []⟩]) ∧ Hid (Bel w wx))
  case first =>
    go_wp2_with fail
    refine (HL.out _ _ mn _ bg ((HBg.out.block _ (blk_lt HROW.out)).trans HROW.out) (Nat.le_refl _)).mono ?_
    rintro e4 wl ⟨hl1, hl2⟩
    rw [if_pos rfl, HQ.out] at hl1
    obtain ⟨Al, cl, rfl, hcl, hCl⟩ := hl1
    simp only [List.length_cons, List.length_nil, Nat.zero_add] at hcl hCl
    have HCL := Lib.hid (And.intro hcl hCl)
    have HB2 := Lib.hid hl2
    clear hCl hcl hl2
    go_wp2_with fail
    go_meet
    exact ⟨Al, cl, rfl, rfl, HCL, HB2⟩
  case rest =>
    obtain ⟨Al, cl, rfl, rfl, HCC, HB2⟩ := hcut
    have hl2 := HB2.out
    have HCL := Lib.hid HCC.out.2
    go_upto_region 23 with fail
    obtain ⟨wS, hwS⟩ : ∃ wS, wc.setCell ⟨g, 4, none⟩ (.bool false) = wS := ⟨_, rfl⟩
    have bS : Bel wc wS := hwS ▸ Bel.setSame ((hl2.out.block _ (blk_lt HW.out)).trans HW.out) rfl
    have bw : Bel w wS := hl2.trans bS
    have HCS := Lib.hid (Kd.now HCL.out bS)
    rw [hwS]
    clear hwS oc bg bs
    go_upto_region 24 with fail
    have hne : gd ≠ g := fun e => by
      have h1 := HDD.out
      rw [e, HW.out] at h1
      exact absurd h1 (by simp)
    have y2 := w2 wS
    have y0 := d0 wS
    go_region_held3 (fun V => V.cell? ⟨g, 2, none⟩ = some (.slice (some ⟨gd, 0, none⟩) 1 dc) ∧ V.cell? ⟨gd, 0, none⟩ = some (.bool false)) (first | (simp [hne, z2, z0, World.cell?_setCell_far, World.cell?_setCell_other, World.cell?_setCell_same']; done) | exact ⟨y2, y0⟩ | fail) (first | (go_at_call 176; refine (hull_one ⟨false, q, []⟩ HIQ.out _ _ _ (Kd.now HCS.out inferInstance)).mono ?_; rintro e5 wh ⟨gr, cr, rfl, hgr, hcr, hCr, HBh⟩; have bh : Bel w wh := bw.trans (Bel.trans (inferInstance : Bel wS _) HBh); have z2 := w2 wh; have z0 := d0 wh; have z1 := d1 wh; have z22 := d2 wh; have z3 := d3 wh; have z4 := d4 wh; have z5 := d5 wh; have o0 := g0 wh; have o1 := g1 wh; have o2 := g2 wh; have o3 := g3 wh; have o4 := g4 wh; have o5 := g5 wh; have HGR := Lib.hid hgr; have HCRR := Lib.hid hCr; have HBHH := Lib.hid bh; have HWS := Lib.hid bw.out.size; clear d0 d1 d2 d3 d4 d5 g0 g1 g2 g3 g4 g5 w2 w4 fw v0 hgr hCr HBh bh zb bw bS hl2 hs1 hs2))
    all_goals
      go_wp2
      go_ret
      exact last_post HBHH.out HDD.out z0 z1 z22 z3 z4 z5 HWS.out HGR.out hcr HCRR.out
end Go.Proofs.YtkdedpofghlmoaaGreatDoor
