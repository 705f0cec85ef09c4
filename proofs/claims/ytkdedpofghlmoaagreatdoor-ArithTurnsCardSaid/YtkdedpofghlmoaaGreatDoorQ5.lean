/- The walk of ArithTurns. No statement is proved here. -/
import Derived.Test.YtkdedpofghlmoaaGreatDoorL2
import Derived.Test.YtkdedpofghlmoaaGreatDoorQ4
set_option linter.unusedVariables false
set_option linter.unusedSimpArgs false
namespace Go.Proofs.YtkdedpofghlmoaaGreatDoor
open Go.RowKit Go.Proofs.YtkdedpofghlmoaaGreatDoorW.PrintWords
theorem made_plus (x y : Int) : madeL nPlus x y = fitL (x + y) := by unfold madeL; rw [if_pos rfl]
theorem made_times (x y : Int) : madeL nTimes x y = fitL (x * y) := by unfold madeL; rw [if_neg (by decide), if_pos rfl]
theorem made_min (x y : Int) : madeL nMin x y = (mni x y, 0) := by unfold madeL; rw [if_neg (by decide), if_neg (by decide), if_pos rfl]
theorem made_max (x y : Int) : madeL nMax x y = (mxi x y, 0) := by unfold madeL; rw [if_neg (by decide), if_neg (by decide), if_neg (by decide), if_pos rfl]
theorem H3_comm {n : ByteArray} {x y : Int} (h : madeL n x y = madeL n y x) (z : Int) : H3 n x y z = H3 n y x z := by
  unfold H3 meansL
  rw [h, Bool.and_comm (inB x) (inB y)]
theorem turn_plus (x y z : Int) : H3 nPlus x y z = H3 nPlus y x z := H3_comm (by rw [made_plus, made_plus, Int.add_comm]) z
theorem turn_times (x y z : Int) : H3 nTimes x y z = H3 nTimes y x z := H3_comm (by rw [made_times, made_times, Int.mul_comm]) z
theorem turn_min (x y z : Int) : H3 nMin x y z = H3 nMin y x z := H3_comm (by rw [made_min, made_min, mni_min, mni_min]; congr 1; omega) z
theorem turn_max (x y z : Int) : H3 nMax x y z = H3 nMax y x z := H3_comm (by rw [made_max, made_max, mxi_max, mxi_max]; congr 1; omega) z
theorem low_yes {x y lo : Int} (h : lo = mni x y) : H3 nMin x y lo = if (inB x && inB y) = true then (true, 0) else (false, 50) := by
  have hl : inB x = true → inB y = true → inB lo = true := by
    intro hx hy
    simp only [inB, Bool.and_eq_true, decide_eq_true_eq, mni_min] at *
    omega
  unfold H3 meansL
  rw [made_min, ← h]
  cases hx : inB x <;> cases hy : inB y <;> simp
  exact hl hx hy
theorem high_yes {x y hi : Int} (h : hi = mxi x y) : H3 nMax x y hi = if (inB x && inB y) = true then (true, 0) else (false, 50) := by
  have hl : inB x = true → inB y = true → inB hi = true := by
    intro hx hy
    simp only [inB, Bool.and_eq_true, decide_eq_true_eq, mxi_max] at *
    omega
  unfold H3 meansL
  rw [made_max, ← h]
  cases hx : inB x <;> cases hy : inB y <;> simp
  exact hl hx hy
end Go.Proofs.YtkdedpofghlmoaaGreatDoor
set_option linter.unusedVariables false
set_option linter.unusedSimpArgs false
namespace Go.Proofs.YtkdedpofghlmoaaGreatDoor
open Go.RowKit Go.Proofs.YtkdedpofghlmoaaGreatDoorW.PrintWords
set_option maxRecDepth 100000 in
set_option maxHeartbeats 4000000 in
theorem law_turns (x y z : Int) (w : World) (hml : ML w) : Calls Tryz.prog 16 #[.int .i64 x, .int .i64 y, .int .i64 z] w fun e w' => e = .returned (.bool true) ∧ Bel w w' := by
  have HML := Lib.hid hml
  clear hml
  obtain ⟨⟨b1, e1⟩, h1⟩ : ∃ r, H3 nPlus x y z = r := ⟨_, rfl⟩
  obtain ⟨⟨b2, e2⟩, h2⟩ : ∃ r, H3 nTimes x y z = r := ⟨_, rfl⟩
  obtain ⟨⟨b3, e3⟩, h3⟩ : ∃ r, H3 nMin x y z = r := ⟨_, rfl⟩
  obtain ⟨⟨b4, e4⟩, h4⟩ : ∃ r, H3 nMax x y z = r := ⟨_, rfl⟩
  have H1 := Lib.hid h1
  have H2 := Lib.hid h2
  have H3' := Lib.hid h3
  have H4 := Lib.hid h4
  have T1 := Lib.hid ((turn_plus x y z).symm.trans h1)
  have T2 := Lib.hid ((turn_times x y z).symm.trans h2)
  have T3 := Lib.hid ((turn_min x y z).symm.trans h3)
  have T4 := Lib.hid ((turn_max x y z).symm.trans h4)
  clear h1 h2 h3 h4
  go_enter Tryz.func16, Tryz.ntmps16
  go_wp2_with fail
  obtain ⟨wz, hwz⟩ : ∃ wz, w.alloc (.cells #[.string nPlus, .string nTimes, .string nMin, .string nMax] 9) = wz := ⟨_, rfl⟩
  have hz : wz.heap[w.heap.size]? = some (.cells #[.string nPlus, .string nTimes, .string nMin, .string nMax] 9 (0, 0)) := hwz ▸ heap_alloc_new _ _
  have zb : Bel w wz := hwz ▸ inferInstance
  have c0 : ∀ (V : World) [Bel wz V], V.cell? ⟨w.heap.size, 0, none⟩ = some (.string nPlus) := fun V h => h.cell (row_cell hz 0)
  have c1 : ∀ (V : World) [Bel wz V], V.cell? ⟨w.heap.size, 1, none⟩ = some (.string nTimes) := fun V h => h.cell (row_cell hz 1)
  have c2 : ∀ (V : World) [Bel wz V], V.cell? ⟨w.heap.size, 2, none⟩ = some (.string nMin) := fun V h => h.cell (row_cell hz 2)
  have c3 : ∀ (V : World) [Bel wz V], V.cell? ⟨w.heap.size, 3, none⟩ = some (.string nMax) := fun V h => h.cell (row_cell hz 3)
  rw [show w.alloc (.cells #[.string ⟨#[105, 110, 116, 95, 112, 108, 117, 115]⟩, .string ⟨#[105, 110, 116, 95, 116, 105, 109, 101, 115]⟩, .string ⟨#[105, 110, 116, 95, 109, 105, 110]⟩, .string ⟨#[105, 110, 116, 95, 109, 97, 120]⟩] 9) = wz from hwz]
  have HZB := Lib.hid zb
  clear hwz hz zb
  refine wp_loop_rounds 5 ?_
  rw [rounds_succ]
  go_wp2_with fail
  refine (law_holds name_plus x y z _ (HML.out.bel (HZB.out.trans inferInstance))).mono ?_
  rintro e w1 ⟨rfl, B1⟩
  rw [H1.out]
  have q1 : Bel wz w1 := Bel.trans inferInstance B1
  clear B1
  go_wp2_with fail
  refine (law_holds name_plus y x z _ (HML.out.bel (HZB.out.trans inferInstance))).mono ?_
  rintro e w2 ⟨rfl, B2⟩
  rw [T1.out]
  have q2 : Bel wz w2 := Bel.trans inferInstance B2
  clear B2 q1
  go_wp2_with fail
  rw [rounds_succ]
  go_wp2_with fail
  refine (law_holds name_times x y z _ (HML.out.bel (HZB.out.trans inferInstance))).mono ?_
  rintro e w3 ⟨rfl, B3⟩
  rw [H2.out]
  have q3 : Bel wz w3 := Bel.trans inferInstance B3
  clear B3 q2
  go_wp2_with fail
  refine (law_holds name_times y x z _ (HML.out.bel (HZB.out.trans inferInstance))).mono ?_
  rintro e w4 ⟨rfl, B4⟩
  rw [T2.out]
  have q4 : Bel wz w4 := Bel.trans inferInstance B4
  clear B4 q3
  go_wp2_with fail
  rw [rounds_succ]
  go_wp2_with fail
  refine (law_holds name_min x y z _ (HML.out.bel (HZB.out.trans inferInstance))).mono ?_
  rintro e w5 ⟨rfl, B5⟩
  rw [H3'.out]
  have q5 : Bel wz w5 := Bel.trans inferInstance B5
  clear B5 q4
  go_wp2_with fail
  refine (law_holds name_min y x z _ (HML.out.bel (HZB.out.trans inferInstance))).mono ?_
  rintro e w6 ⟨rfl, B6⟩
  rw [T3.out]
  have q6 : Bel wz w6 := Bel.trans inferInstance B6
  clear B6 q5
  go_wp2_with fail
  rw [rounds_succ]
  go_wp2_with fail
  refine (law_holds name_max x y z _ (HML.out.bel (HZB.out.trans inferInstance))).mono ?_
  rintro e w7 ⟨rfl, B7⟩
  rw [H4.out]
  have q7 : Bel wz w7 := Bel.trans inferInstance B7
  clear B7 q6
  go_wp2_with fail
  refine (law_holds name_max y x z _ (HML.out.bel (HZB.out.trans inferInstance))).mono ?_
  rintro e w8 ⟨rfl, B8⟩
  rw [T4.out]
  have q8 : Bel wz w8 := Bel.trans inferInstance B8
  clear B8 q7
  go_wp2_with fail
  rw [rounds_succ]
  have hlo := Lib.hid (show mni x y = if y < x then y else x from rfl)
  have hhi := Lib.hid (show mxi x y = if x < y then y else x from rfl)
  clear c0 c1 c2 c3
  by_cases hlt : y < x
  · have HL := Lib.hid (low_yes (x := x) (y := y) (lo := y) (by rw [mni, if_pos hlt]))
    have HH := Lib.hid (high_yes (x := x) (y := y) (hi := x) (by rw [mxi, if_neg (by omega)]))
    have HP := Lib.hid (T1.out : H3 nPlus y x z = (b1, e1))
    go_wp2_with fail
    refine (law_holds name_min x y y _ (HML.out.bel (HZB.out.trans inferInstance))).mono ?_
    rintro e w9 ⟨rfl, B9⟩
    rw [HL.out]
    have q9 : Bel wz w9 := Bel.trans inferInstance B9
    clear B9 q8
    cases hin : (inB x && inB y) with
    | true =>
      rw [if_pos rfl]
      have HI := Lib.hid hin
      clear hin
      go_wp2_with fail
      refine (law_holds name_max x y x _ (HML.out.bel (HZB.out.trans inferInstance))).mono ?_
      rintro e w10 ⟨rfl, B10⟩
      rw [HH.out, HI.out]
      rw [if_pos rfl]
      have q10 : Bel wz w10 := Bel.trans inferInstance B10
      clear B10 q9
      go_wp2_with fail
      refine (law_holds name_plus x y z _ (HML.out.bel (HZB.out.trans inferInstance))).mono ?_
      rintro e w11 ⟨rfl, B11⟩
      rw [H1.out]
      have q11 : Bel wz w11 := Bel.trans inferInstance B11
      clear B11 q10
      go_wp2_with fail
      refine (law_holds name_plus y x z _ (HML.out.bel (HZB.out.trans inferInstance))).mono ?_
      rintro e w12 ⟨rfl, B12⟩
      rw [HP.out]
      have q12 : Bel wz w12 := Bel.trans inferInstance B12
      clear B12 q11
      go_wp2_with fail
      refine (law_known _ (HML.out.bel (HZB.out.trans inferInstance))).mono ?_
      rintro e w13 ⟨rfl, B13⟩
      go_wp2
      go_ret
      exact ⟨rfl, HZB.out.trans (Bel.trans inferInstance B13)⟩
    | false =>
      rw [if_neg (by simp)]
      have HI := Lib.hid hin
      clear hin
      go_wp2_with fail
      refine (law_holds name_max x y x _ (HML.out.bel (HZB.out.trans inferInstance))).mono ?_
      rintro e w10 ⟨rfl, B10⟩
      rw [HH.out, HI.out]
      rw [if_neg (by simp)]
      have q10 : Bel wz w10 := Bel.trans inferInstance B10
      clear B10 q9
      go_wp2_with fail
      refine (law_holds name_plus x y z _ (HML.out.bel (HZB.out.trans inferInstance))).mono ?_
      rintro e w11 ⟨rfl, B11⟩
      rw [H1.out]
      have q11 : Bel wz w11 := Bel.trans inferInstance B11
      clear B11 q10
      go_wp2_with fail
      refine (law_holds name_plus y x z _ (HML.out.bel (HZB.out.trans inferInstance))).mono ?_
      rintro e w12 ⟨rfl, B12⟩
      rw [HP.out]
      have q12 : Bel wz w12 := Bel.trans inferInstance B12
      clear B12 q11
      go_wp2_with fail
      refine (law_known _ (HML.out.bel (HZB.out.trans inferInstance))).mono ?_
      rintro e w13 ⟨rfl, B13⟩
      go_wp2
      go_ret
      exact ⟨rfl, HZB.out.trans (Bel.trans inferInstance B13)⟩
  · have HL := Lib.hid (low_yes (x := x) (y := y) (lo := x) (by rw [mni, if_neg hlt]))
    have HH := Lib.hid (high_yes (x := x) (y := y) (hi := y) (by rw [mxi]; split <;> omega))
    have HP := Lib.hid (H1.out : H3 nPlus x y z = (b1, e1))
    go_wp2_with fail
    refine (law_holds name_min x y x _ (HML.out.bel (HZB.out.trans inferInstance))).mono ?_
    rintro e w9 ⟨rfl, B9⟩
    rw [HL.out]
    have q9 : Bel wz w9 := Bel.trans inferInstance B9
    clear B9 q8
    cases hin : (inB x && inB y) with
    | true =>
      rw [if_pos rfl]
      have HI := Lib.hid hin
      clear hin
      go_wp2_with fail
      refine (law_holds name_max x y y _ (HML.out.bel (HZB.out.trans inferInstance))).mono ?_
      rintro e w10 ⟨rfl, B10⟩
      rw [HH.out, HI.out]
      rw [if_pos rfl]
      have q10 : Bel wz w10 := Bel.trans inferInstance B10
      clear B10 q9
      go_wp2_with fail
      refine (law_holds name_plus x y z _ (HML.out.bel (HZB.out.trans inferInstance))).mono ?_
      rintro e w11 ⟨rfl, B11⟩
      rw [H1.out]
      have q11 : Bel wz w11 := Bel.trans inferInstance B11
      clear B11 q10
      go_wp2_with fail
      refine (law_holds name_plus x y z _ (HML.out.bel (HZB.out.trans inferInstance))).mono ?_
      rintro e w12 ⟨rfl, B12⟩
      rw [HP.out]
      have q12 : Bel wz w12 := Bel.trans inferInstance B12
      clear B12 q11
      go_wp2_with fail
      refine (law_known _ (HML.out.bel (HZB.out.trans inferInstance))).mono ?_
      rintro e w13 ⟨rfl, B13⟩
      go_wp2
      go_ret
      exact ⟨rfl, HZB.out.trans (Bel.trans inferInstance B13)⟩
    | false =>
      rw [if_neg (by simp)]
      have HI := Lib.hid hin
      clear hin
      go_wp2_with fail
      refine (law_holds name_max x y y _ (HML.out.bel (HZB.out.trans inferInstance))).mono ?_
      rintro e w10 ⟨rfl, B10⟩
      rw [HH.out, HI.out]
      rw [if_neg (by simp)]
      have q10 : Bel wz w10 := Bel.trans inferInstance B10
      clear B10 q9
      go_wp2_with fail
      refine (law_holds name_plus x y z _ (HML.out.bel (HZB.out.trans inferInstance))).mono ?_
      rintro e w11 ⟨rfl, B11⟩
      rw [H1.out]
      have q11 : Bel wz w11 := Bel.trans inferInstance B11
      clear B11 q10
      go_wp2_with fail
      refine (law_holds name_plus x y z _ (HML.out.bel (HZB.out.trans inferInstance))).mono ?_
      rintro e w12 ⟨rfl, B12⟩
      rw [HP.out]
      have q12 : Bel wz w12 := Bel.trans inferInstance B12
      clear B12 q11
      go_wp2_with fail
      refine (law_known _ (HML.out.bel (HZB.out.trans inferInstance))).mono ?_
      rintro e w13 ⟨rfl, B13⟩
      go_wp2
      go_ret
      exact ⟨rfl, HZB.out.trans (Bel.trans inferInstance B13)⟩
end Go.Proofs.YtkdedpofghlmoaaGreatDoor
