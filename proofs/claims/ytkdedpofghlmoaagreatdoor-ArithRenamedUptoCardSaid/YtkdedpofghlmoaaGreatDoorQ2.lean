/- The walk of tool.Prune at a constraint of three terms of which the last is a variable. No statement is proved here. -/
import Derived.Test.YtkdedpofghlmoaaGreatDoorQ1
set_option linter.unusedVariables false
set_option linter.unusedSimpArgs false
namespace Go.Proofs.YtkdedpofghlmoaaGreatDoor
open Go.RowKit Go.Proofs.YtkdedpofghlmoaaGreatDoorW.PrintWords
def PrunePost (w : World) (e q : Int) (e' : Ending) (w' : World) : Prop :=
  Bel w w' ∧ (((e == 0) = false ∧ e' = .returned (.tuple #[.slice none 0 0, .int .i64 0, .int .i64 e])) ∨ (e = 0 ∧ ∃ gd dc gr cr, e' = .returned (.tuple #[.slice (some ⟨gd, 0, none⟩) 1 dc, .int .i64 1, .int .i64 0]) ∧ 1 ≤ cr ∧ kRng.C w' (some ⟨gr, 0, none⟩) 1 [⟨q, q⟩] ∧ w'.cell? ⟨gd, 0, none⟩ = some (.bool false) ∧ w'.cell? ⟨gd, 1, none⟩ = some (.slice (some ⟨gr, 0, none⟩) 1 cr) ∧ w'.cell? ⟨gd, 2, none⟩ = some (.slice none 0 0) ∧ w'.cell? ⟨gd, 3, none⟩ = some (.slice none 0 0) ∧
    w'.cell? ⟨gd, 4, none⟩ = some (.int .i64 0) ∧ w'.cell? ⟨gd, 5, none⟩ = some (.int .i64 0)))
/-- What Work.last makes of the one domain. -/
def LastIs (w : World) (gd : Nat) (e q : Int) (e' : Ending) (w' : World) : Prop :=
  ((e == 0) = false ∧ e' = .returned (.int .i64 e) ∧ Bel w w') ∨ (e = 0 ∧ e' = .returned (.int .i64 0) ∧ ∃ gr cr, 1 ≤ cr ∧ kRng.C w' (some ⟨gr, 0, none⟩) 1 [⟨q, q⟩] ∧ w'.cell? ⟨gd, 0, none⟩ = some (.bool false) ∧ w'.cell? ⟨gd, 1, none⟩ = some (.slice (some ⟨gr, 0, none⟩) 1 cr) ∧ w'.cell? ⟨gd, 2, none⟩ = some (.slice none 0 0) ∧ w'.cell? ⟨gd, 3, none⟩ = some (.slice none 0 0) ∧
    w'.cell? ⟨gd, 4, none⟩ = some (.int .i64 0) ∧ w'.cell? ⟨gd, 5, none⟩ = some (.int .i64 0) ∧ w.grownBy w' (some gd))
set_option maxRecDepth 100000 in
set_option maxHeartbeats 4000000 in
theorem tool_Prune1 {n : ByteArray} (h3 : Name3 n) {x y e q : Int} (A : Option Addr) (c : Nat) (dd : Addr) (dc : Nat) (RA : Option Addr) (rc : Nat) (w : World) (hml : ML w) (ha : kArg.C w A 3 (a3 x y)) (hx : inB x = true) (hy : inB y = true)
    (hrc : 1 ≤ rc) (hR : kRng.C w RA 1 l9) (d0 : w.cell? dd = some (.bool false)) (d1 : w.cell? ⟨dd.block, dd.off + 1, none⟩ = some (.slice RA 1 rc))
    (d2 : w.cell? ⟨dd.block, dd.off + 2, none⟩ = some (.slice none 0 0)) (d3 : w.cell? ⟨dd.block, dd.off + 3, none⟩ = some (.slice none 0 0)) (d4 : w.cell? ⟨dd.block, dd.off + 4, none⟩ = some (.int .i64 0)) (d5 : w.cell? ⟨dd.block, dd.off + 5, none⟩ = some (.int .i64 0))
    (HT : ∀ (g : Nat) (D : Value) (W : World), W.heap[g]? = some (.cells (workC n (.slice A 3 c) D false false) 126 (0, 0)) → Bel w W → Calls Tryz.prog 85 #[.pointer (some ⟨g, 0, none⟩)] W fun e w' => e = .returned (.tuple #[]) ∧ Bel W w')
    (HL : ∀ (u W : World) (g gd dc gr cr : Nat) (dcs : Array Value) (va : Option Addr) (vc : Nat), Bel w W → PrAt u W n (.slice A 3 c) false g gd dc gr cr dcs (-9) 9 → (Kd.int .i64).C W va 1 [0] → Calls Tryz.prog 109 #[.pointer (some ⟨g, 0, none⟩), .slice va 1 vc, .func (.func 78) #[] #[]] W (LastIs W gd e q))
    (hq : e = 0 → sameL l9 [⟨q, q⟩] = false) :
    Calls Tryz.prog 59 #[.agg #[.string n, .slice A 3 c], .slice (some dd) 1 dc, .string arithFam, .func (.func 78) #[] #[], .func (.func 85) #[] #[]] w (PrunePost w e q) := by
  have HFM := Lib.hid (show (findR n).family = arithFam from by rw [h3.row])
  have hfam : (arithFam.toList == arithFam.toList) = true := by simp
  have HRE := Lib.hid (right_a3 h3 hx hy)
  have hvars := vars_a3 x y
  have HN := Lib.hid h3
  have HML := Lib.hid hml
  have HA := Lib.hid ha
  have HRR := Lib.hid hR
  have HTT := Lib.hid HT
  have HLL := Lib.hid HL
  have HQ := Lib.hid hq
  replace d0 : ∀ (V : World) [Bel w V], V.cell? dd = some (.bool false) := fun V h => h.cell d0
  replace d1 : ∀ (V : World) [Bel w V], V.cell? ⟨dd.block, dd.off + 1, none⟩ = some (.slice RA 1 rc) := fun V h => h.cell d1
  replace d2 : ∀ (V : World) [Bel w V], V.cell? ⟨dd.block, dd.off + 2, none⟩ = some (.slice none 0 0) := fun V h => h.cell d2
  replace d3 : ∀ (V : World) [Bel w V], V.cell? ⟨dd.block, dd.off + 3, none⟩ = some (.slice none 0 0) := fun V h => h.cell d3
  replace d4 : ∀ (V : World) [Bel w V], V.cell? ⟨dd.block, dd.off + 4, none⟩ = some (.int .i64 0) := fun V h => h.cell d4
  replace d5 : ∀ (V : World) [Bel w V], V.cell? ⟨dd.block, dd.off + 5, none⟩ = some (.int .i64 0) := fun V h => h.cell d5
  clear h3 hml ha hR HT HL hq hx hy
  go_enter Tryz.func59, Tryz.ntmps59
  go_wp2_with fail
  refine (cons_Family n _).mono ?_
  rintro e1 w1 ⟨rfl, HB1⟩
  rw [HFM.out]
  have b0 : ∀ (V : World) [Bel w1 V], V.cell? ⟨w.heap.size, 0, none⟩ = some (.string n) := fun V h => h.cell (Bel.box HB1 rfl 0 rfl)
  have b1 : ∀ (V : World) [Bel w1 V], V.cell? ⟨w.heap.size, 1, none⟩ = some (.slice A 3 c) := fun V h => h.cell (Bel.box HB1 rfl 1 rfl)
  have B1 : Bel w w1 := Bel.trans inferInstance HB1
  clear HB1
  go_wp2_with fail
  refine wp_loop_rounds 2 ?_
  rw [rounds_succ]
  go_wp2_with (at_builtin; refine AccB.app (w0 := w1) (Wr := w1) Acc.nil rfl rfl rfl rfl (by simp) inferInstance (by simp) ?_; intro v1 wa HOa hka; clear hka)
  simp only [List.nil_append] at HOa
  obtain ⟨Ak, ck, rfl, hlk, hCk⟩ := HOa.reads
  simp only [List.length_cons, List.length_nil, Nat.zero_add] at hlk hCk
  have Ba : Bel w1 wa := HOa.bel
  have Bwa : Bel w wa := B1.trans Ba
  have HCK := Lib.hid hCk
  clear HOa hCk
  rw [rounds_succ]
  go_wp2_with fail
  refine (cons_Right n A c (a3 x y) Ak ck [false] _ (HML.out.bel Bwa) (Kd.now HA.out Bwa) HCK.out HN.out.plain ?_ ?_ ?_).mono ?_
  · rw [HN.out.row]
    exact (by decide : form3.size < 4294967281)
  · rw [HN.out.row]
    show form3.toList.isEmpty = false
    rw [ByteArray.toList_eq]
    rfl
  · rw [HN.out.row, parts3]
    intro p hp
    have : p = part1 := by simpa using hp
    subst this
    exact (by decide : 1 ≤ part1.size ∧ part1.size ≤ 1000)
  rintro e2 w2 ⟨rfl, HB2⟩
  rw [HRE.out]
  have B12 : Bel w1 w2 := Ba.trans HB2
  have Bw2 : Bel w w2 := B1.trans B12
  clear HCK Ba Bwa HB2 hlk
  go_wp2_with fail
  refine (cons_Vars n A c (a3 x y) _ (Kd.now HA.out Bw2) (by simp [tA]) (by simp)).mono ?_
  rintro e3 wv ⟨v3, rfl, HO3⟩
  rw [hvars] at HO3
  obtain ⟨A3, c3, rfl, hl3, hC3⟩ := HO3.reads
  simp only [List.length_cons, List.length_nil, Nat.zero_add] at hl3 hC3
  obtain ⟨vd, rfl, v0⟩ := Int.nth hC3 (k := 0) (x := 0) rfl
  change wv.cell? vd = some (.int .i64 0) at v0
  replace v0 : ∀ (V : World) [Bel wv V], V.cell? vd = some (.int .i64 0) := fun V h => h.cell v0
  have HC3 := Lib.hid hC3
  have B1v : Bel w1 wv := B12.trans HO3.bel
  have Bwv : Bel w wv := B1.trans B1v
  clear hC3 HO3 B12 Bw2 hvars
  go_wp2_with fail
  refine wp_loop_rounds 2 ?_
  rw [rounds_succ]
  go_upto_block 3 with fail
  go_cut [20] from 63 to 75 (fun _ wx => ∃ gd dc gr cr dcs, Hid (PrAt wv wx n (.slice A 3 c) false wv.heap.size gd dc gr cr dcs (-9) 9))
  case first =>
    go_upto_region 17 with fail
    obtain ⟨wz, hwz⟩ : ∃ wz, (wv.alloc (.cells (workC n (.slice A 3 c) (.slice none 0 0) false false) 126)).alloc (.cells #[.bool false, .slice RA 1 rc, .slice none 0 0, .slice none 0 0, .int .i64 0, .int .i64 0] 49) = wz := ⟨_, rfl⟩
    have zb : Bel wv wz := hwz ▸ inferInstance
    have z0 : wz.heap[wv.heap.size]? = some (.cells (workC n (.slice A 3 c) (.slice none 0 0) false false) 126 (0, 0)) := hwz ▸ (heap_alloc_old _ _ (by simp)).trans (heap_alloc_new _ _)
    have z1 : wz.heap[wv.heap.size + 1]? = some (.cells #[.bool false, .slice RA 1 rc, .slice none 0 0, .slice none 0 0, .int .i64 0, .int .i64 0] 49 (0, 0)) := hwz ▸ heap_alloc2_new wv _ _
    rw [hwz]
    have k2 : ∀ (V : World) [Bel wz V], V.cell? ⟨wv.heap.size, 2, none⟩ = some (.slice none 0 0) := fun V h => h.cell (row_cell z0 2)
    have f2 : ∀ (V : World) [Bel wz V], V.frozen? ⟨wv.heap.size, 2, none⟩ = false := fun V h => frozen_of_row V _ 2 _ _ ((h.out.block _ (blk_lt z0)).trans z0)
    have x0 : ∀ (V : World) [Bel wz V], V.cell? ⟨wv.heap.size + 1, 0, none⟩ = some (.bool false) := fun V h => h.cell (row_cell z1 0)
    have x1 : ∀ (V : World) [Bel wz V], V.cell? ⟨wv.heap.size + 1, 1, none⟩ = some (.slice RA 1 rc) := fun V h => h.cell (row_cell z1 1)
    have x2 : ∀ (V : World) [Bel wz V], V.cell? ⟨wv.heap.size + 1, 2, none⟩ = some (.slice none 0 0) := fun V h => h.cell (row_cell z1 2)
    have x3 : ∀ (V : World) [Bel wz V], V.cell? ⟨wv.heap.size + 1, 3, none⟩ = some (.slice none 0 0) := fun V h => h.cell (row_cell z1 3)
    have x4 : ∀ (V : World) [Bel wz V], V.cell? ⟨wv.heap.size + 1, 4, none⟩ = some (.int .i64 0) := fun V h => h.cell (row_cell z1 4)
    have x5 : ∀ (V : World) [Bel wz V], V.cell? ⟨wv.heap.size + 1, 5, none⟩ = some (.int .i64 0) := fun V h => h.cell (row_cell z1 5)
    have Z0 := Lib.hid z0
    have HZB := Lib.hid zb
    clear hwz z0 z1
    go_region_law (first | (refine step_append_cells (w0 := wb) wb.heap.size (by rfl) (.tmp 69) (.tmp 72) 33 49 _ 6 96 rfl Tryz.underlying33 info49 rfl (by decide) (by decide) (.slice none 0 0) 0 [] _ rfl rfl (by rfl) (by simp [Value.oneCell']) ⟨rfl, .inl ⟨rfl, rfl⟩⟩ (Below.refl _ _) (Nat.le_refl _) (by decide) ?_; intro v5 w5 ho5 hb5 hg5 hat5; obtain ⟨gd, ec, cur, rfl, hgd, hcur, hn1, hmx, hsz, htk⟩ := ho5.2.resolve_left (fun h => absurd h.2 (by decide)); have q5 : Bel wz w5 := Bel.trans q ⟨hb5⟩) | (go_simp; go_at_call 103; refine (tool_lent RA l9 rc _ (by decide) (Kd.now HRR.out (Bwv.trans (HZB.out.trans inferInstance)))).mono ?_; rintro e5 wb ⟨v6, rfl, HO6⟩; obtain ⟨Ar, cr, rfl⟩ := HO6.len; have q := Bel.trans (inferInstance : Bel wz _) HO6.bel))
    all_goals
      go_wp2_with fail
      go_meet
      obtain ⟨gr, rfl, hp⟩ := prAt_start HZB.out (Nat.le_refl _) Z0.out inferInstance HO6 inferInstance ⟨hb5⟩ hgd hcur (by simpa using htk)
      exact ⟨gd, ec, gr, cr, cur, Lib.hid hp⟩
  case rest =>
    obtain ⟨gd, ec, gr, cr, dcs, HP⟩ := hcut
    obtain ⟨k2, k3, k4, f3, f4⟩ := HP.out.facts
    have Bc : Bel w wc := Bwv.trans HP.out.bel
    have Bd := B1v.trans HP.out.bel
    have HD0 := Lib.hid (rebase Bwv d0)
    have HD1 := Lib.hid (rebase Bwv d1)
    have HD2 := Lib.hid (rebase Bwv d2)
    have HD3 := Lib.hid (rebase Bwv d3)
    have HD4 := Lib.hid (rebase Bwv d4)
    have HD5 := Lib.hid (rebase Bwv d5)
    have HB0 := Lib.hid b0
    have HBb1 := Lib.hid b1
    have HV0 := Lib.hid v0
    have HW1v := Lib.hid B1v
    replace d0 := rebase Bc d0
    replace d1 := rebase Bc d1
    replace d2 := rebase Bc d2
    replace d3 := rebase Bc d3
    replace d4 := rebase Bc d4
    replace d5 := rebase Bc d5
    replace b0 := rebase Bd b0
    replace b1 := rebase Bd b1
    replace v0 := rebase HP.out.bel v0
    have HBC := Lib.hid Bc
    clear B1 B1v Bc Bd
    go_wp2_with fail
    rw [rounds_succ]
    go_wp2_with fail
    refine wp_loop_rounds 2 ?_
    rw [rounds_succ]
    go_wp2_with fail
    refine (tool_rightDom RA l9 rc _ (Kd.now HRR.out (HBC.out.trans inferInstance)) (Lib.hid right_l9)).mono ?_
    rintro e5 w5 ⟨rfl, HB5⟩
    have q5 : Bel wc w5 := Bel.trans inferInstance HB5
    clear HB5
    go_wp2_with fail
    refine (tool_empty RA 1 rc _).mono ?_
    rintro e6 w6 ⟨rfl, HB6⟩
    rw [show (((1 : Nat) : Int) == 0) = false from rfl]
    have q6 : Bel wc w6 := q5.trans (Bel.trans inferInstance HB6)
    clear q5 HB6
    go_upto_region 27 with fail
    have hP1 := (HP.out.later q6).set4
    obtain ⟨ws, hws⟩ : ∃ ws, w6.setCell ⟨wv.heap.size, 4, none⟩ (.bool false) = ws := ⟨_, rfl⟩
    rw [hws] at hP1 ⊢
    have HP1 := Lib.hid hP1
    clear hws hP1 q6 HBC k2 k3 k4 f3 f4 d0 d1 d2 d3 d4 d5 b0 b1 v0
    obtain ⟨k2, k3, k4, f3, f4⟩ := HP1.out.facts
    have HB1s := Lib.hid (HW1v.out.trans HP1.out.bel)
    have b0 := rebase HB1s.out HB0.out
    have b1 := rebase HB1s.out HBb1.out
    go_wp2_with fail
    rw [rounds_succ]
    go_wp2_with fail
    refine (tool_truths n _ (HML.out.bel ((Bwv.trans HP1.out.bel).trans inferInstance)) ?_ ?_).mono ?_
    · rw [HN.out.row]
      exact (by decide : form3.size < 4294967281)
    · rw [HN.out.row, parts3]
      intro p hp
      have : p = part1 := by simpa using hp
      subst this
      exact (by decide : part1.size ≤ 1000)
    rw [truthsL3 HN.out]
    rintro e7 w7 ⟨At, ct, rfl, _, _, HB7⟩
    simp only [List.length_nil]
    have q7 : Bel ws w7 := Bel.trans inferInstance HB7
    clear HB7 b0 b1
    go_wp2_with fail
    refine wp_loop_rounds 1 ?_
    rw [rounds_succ]
    go_upto_block 10 with fail
    have hP2 := (HP1.out.later q7).set3 true
    obtain ⟨wt, hwt⟩ : ∃ wt, w7.setCell ⟨wv.heap.size, 3, none⟩ (.bool true) = wt := ⟨_, rfl⟩
    rw [hwt] at hP2 ⊢
    have HP2 := Lib.hid hP2
    clear hwt hP2 q7 k2 k3 k4 f3 f4
    obtain ⟨k2, k3, k4, f3, f4⟩ := HP2.out.facts
    go_wp2_with fail
    refine wp_loop_rounds 2 ?_
    rw [rounds_succ]
    go_upto_region 40 with fail
    have hP3 := HP2.out.set3 false
    obtain ⟨wu, hwu⟩ : ∃ wu, wt.setCell ⟨wv.heap.size, 3, none⟩ (.bool false) = wu := ⟨_, rfl⟩
    rw [hwu] at hP3 ⊢
    have HP3 := Lib.hid hP3
    clear hwu hP3 k2 k3 k4 f3 f4
    obtain ⟨k2, k3, k4, f3, f4⟩ := HP3.out.facts
    go_wp2_with fail
    refine (HTT.out _ _ _ HP3.out.row (Bwv.trans HP3.out.bel)).mono ?_
    rintro e8 w8 ⟨rfl, HB8⟩
    go_wp2_with fail
    rw [rounds_succ]
    go_wp2_with fail
    refine (HLL.out wv _ _ gd ec gr cr dcs (some vd) c3 (Bwv.trans (HP3.out.bel.trans HB8)) (HP3.out.later HB8) (Kd.now HC3.out (HP3.out.bel.trans HB8))).mono ?_
    intro e9 w9 hL
    have HP4 := Lib.hid (HP3.out.later HB8)
    clear k2 k3 k4 f3 f4
    rcases hL with ⟨he, rfl, HB9⟩ | ⟨he, rfl, gr', cr', hcr', hC', y0, y1, y2, y3, y4, y5, hg⟩
    · have HB9' := Lib.hid HB9
      have HE := Lib.hid he
      go_wp2
      go_returns
      exact ⟨Bwv.trans (HP4.out.bel.trans HB9'.out), .inl ⟨HE.out, rfl⟩⟩
    · subst he
      have BV : Bel wv w9 := Bel.grown HP4.out.bel hg HP4.out.lgd
      have hgr : w9.heap[wv.heap.size]? = some (.cells (workC n (.slice A 3 c) (.slice (some ⟨gd, 0, none⟩) 1 ec) false false) 126 (0, 0)) := by
        rw [hg.block _ (blk_lt HP4.out.row) (fun e => by
          have h1 := HP4.out.dom
          cases e
          rw [HP4.out.row] at h1
          exact absurd h1 (by simp))]
        exact HP4.out.row
      have k2 : ∀ (V : World) [Bel w9 V], V.cell? ⟨wv.heap.size, 2, none⟩ = some (.slice (some ⟨gd, 0, none⟩) 1 ec) := fun V h => h.cell (row_cell hgr 2)
      have k4 : ∀ (V : World) [Bel w9 V], V.cell? ⟨wv.heap.size, 4, none⟩ = some (.bool false) := fun V h => h.cell (row_cell hgr 4)
      have Y := Lib.hid (And.intro y0 (And.intro y1 (And.intro y2 (And.intro y3 (And.intro y4 y5)))))
      replace y0 : ∀ (V : World) [Bel w9 V], V.cell? ⟨gd, 0, none⟩ = some (.bool false) := fun V h => h.cell y0
      replace y1 : ∀ (V : World) [Bel w9 V], V.cell? ⟨gd, 1, none⟩ = some (.slice (some ⟨gr', 0, none⟩) 1 cr') := fun V h => h.cell y1
      replace y2 : ∀ (V : World) [Bel w9 V], V.cell? ⟨gd, 2, none⟩ = some (.slice none 0 0) := fun V h => h.cell y2
      replace y3 : ∀ (V : World) [Bel w9 V], V.cell? ⟨gd, 3, none⟩ = some (.slice none 0 0) := fun V h => h.cell y3
      replace y4 : ∀ (V : World) [Bel w9 V], V.cell? ⟨gd, 4, none⟩ = some (.int .i64 0) := fun V h => h.cell y4
      replace y5 : ∀ (V : World) [Bel w9 V], V.cell? ⟨gd, 5, none⟩ = some (.int .i64 0) := fun V h => h.cell y5
      have d0 := rebase BV HD0.out
      have d1 := rebase BV HD1.out
      have d2 := rebase BV HD2.out
      have d3 := rebase BV HD3.out
      have d4 := rebase BV HD4.out
      have d5 := rebase BV HD5.out
      have v0 := rebase BV HV0.out
      have HCC := Lib.hid hC'
      have HBV := Lib.hid BV
      have HSM := Lib.hid (HQ.out rfl)
      clear hC' hg hgr BV
      go_wp2_with fail
      refine wp_loop_rounds 2 ?_
      rw [rounds_succ]
      go_upto_region 51 with fail
      go_region_held3 (fun V => Bel w9 V) (first | exact inferInstance | fail) (first | (go_at_call 110; refine (tool_same RA (some ⟨gr', 0, none⟩) l9 [⟨q, q⟩] rc cr' _ hrc hcr' (Kd.now HRR.out ((Bwv.trans HBV.out).trans inferInstance)) (Kd.now HCC.out inferInstance)).mono ?_; rintro e10 w10 ⟨rfl, HB10⟩; rw [HSM.out]; have q10 : Bel w9 w10 := Bel.trans inferInstance HB10))
      go_wp2_with fail
      rw [rounds_succ]
      go_wp2
      go_returns
      have hy := Y.out
      exact ⟨(Bwv.trans HBV.out).trans q10, .inr ⟨rfl, gd, ec, gr', cr', rfl, hcr', Kd.now HCC.out q10, q10.cell hy.1, q10.cell hy.2.1, q10.cell hy.2.2.1, q10.cell hy.2.2.2.1, q10.cell hy.2.2.2.2.1, q10.cell hy.2.2.2.2.2⟩⟩
end Go.Proofs.YtkdedpofghlmoaaGreatDoor
