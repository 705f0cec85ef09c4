/- Constraints of three single terms: what Right says of them; the law's holds. No statement is proved here. -/
import Derived.Test.YtkdedpofghlmoaaGreatDoorL1
set_option linter.unusedVariables false
set_option linter.unusedSimpArgs false
namespace Go.Proofs.YtkdedpofghlmoaaGreatDoor
open Go.RowKit Go.Proofs.YtkdedpofghlmoaaGreatDoorW.PrintWords
/-- A name of a constraint of three numbers. -/
structure Name3 (n : ByteArray) : Prop where
  row : findR n = ⟨n, form3, arithFam⟩
  plain : plainB n = true
  thr : three n = true
theorem name_plus : Name3 nPlus := ⟨row_plus, by unfold plainB; rw [ByteArray.toList_eq]; kernel_rfl, by unfold three; rw [ByteArray.toList_eq]; kernel_rfl⟩
theorem name_times : Name3 nTimes := ⟨row_times, by unfold plainB; rw [ByteArray.toList_eq]; kernel_rfl, by unfold three; rw [ByteArray.toList_eq]; kernel_rfl⟩
theorem name_min : Name3 nMin := ⟨row_min, by unfold plainB; rw [ByteArray.toList_eq]; kernel_rfl, by unfold three; rw [ByteArray.toList_eq]; kernel_rfl⟩
theorem name_max : Name3 nMax := ⟨row_max, by unfold plainB; rw [ByteArray.toList_eq]; kernel_rfl, by unfold three; rw [ByteArray.toList_eq]; kernel_rfl⟩
theorem name_div : Name3 nDiv := ⟨row_div, by unfold plainB; rw [ByteArray.toList_eq]; kernel_rfl, by unfold three; rw [ByteArray.toList_eq]; kernel_rfl⟩
theorem name_mod : Name3 nMod := ⟨row_mod, by unfold plainB; rw [ByteArray.toList_eq]; kernel_rfl, by unfold three; rw [ByteArray.toList_eq]; kernel_rfl⟩
theorem name_pow : Name3 nPow := ⟨row_pow, by unfold plainB; rw [ByteArray.toList_eq]; kernel_rfl, by unfold three; rw [ByteArray.toList_eq]; kernel_rfl⟩
def tA (t : Term) : Arg := ⟨false, [t]⟩
theorem first73 : firstC part1 = 73 := by kernel_rfl
theorem last73 : lastC part1 = 73 := by kernel_rfl
theorem right3 {n : ByteArray} (h : Name3 n) (t0 t1 t2 : Term) (ks : List Bool) : rightE n [tA t0, tA t1, tA t2] ks = if (asksB 73 ks t0 && asksB 73 ks t1 && asksB 73 ks t2) = true then 0 else 50 := by
  unfold rightE
  rw [h.row, parts3]
  cases h0 : asksB 73 ks t0 <;> cases h1 : asksB 73 ks t1 <;> cases h2 : asksB 73 ks t2 <;> simp [headR, longR, askR, tA, first73, last73, h0, h1, h2]
theorem truthsL3 {n : ByteArray} (h : Name3 n) : truthsL n = [] := by
  unfold truthsL
  rw [h.row, parts3]
  exact truths3
/-- arith.Holds at a constraint of three single terms. -/
theorem arith_Holds3 {n : ByteArray} (h : Name3 n) {t0 t1 t2 : Term} {vs : List Val} {b : Bool} {x : Int} (A : Option Addr) (c : Nat) (B : Option Addr) (d : Nat) (w : World) (hm : ML w)
    (ha : kArg.C w A 3 [tA t0, tA t1, tA t2]) (hv : kVal.C w B vs.length vs)
    (HM : (asksB 73 (vs.map Val.set) t0 && asksB 73 (vs.map Val.set) t1 && asksB 73 (vs.map Val.set) t2) = true → rightVars vs (varsL [tA t0, tA t1, tA t2]) = true → MeansIs 78 n (valuesL vs [tA t0, tA t1, tA t2]) b x) (hvs : vs.length ≤ 1000000) :
    Calls Tryz.prog 38 #[.agg #[.string n, .slice A 3 c], .slice B vs.length d] w fun e w' => e = .returned (.tuple #[.bool (HoldsL arithFam n [tA t0, tA t1, tA t2] vs b x).1, .int .i64 (HoldsL arithFam n [tA t0, tA t1, tA t2] vs b x).2]) ∧ Bel w w' := by
  refine arith_Holds (args := [tA t0, tA t1, tA t2]) A c B d w hm ha hv h.plain (truthsL3 h) ?_ ?_ ?_ ?_ ?_ hvs
  · rw [h.row]
    exact (by decide : form3.size < 4294967281)
  · rw [h.row]
    show form3.toList.isEmpty = false
    rw [ByteArray.toList_eq]
    rfl
  · rw [h.row, parts3]
    intro p hp
    have : p = part1 := by simpa using hp
    subst this
    exact (by decide : 1 ≤ part1.size ∧ part1.size ≤ 1000)
  · rw [h.row, parts3]
    decide
  · intro hr
    rw [right3 h] at hr
    split at hr
    · rename_i hq
      exact HM hq
    · cases hr
theorem asks_cT (ks : List Bool) (n : Int) : asksB 73 ks (cT n) = inB n := by
  simp [asksB, cT, varR, numR, inB]
  rfl
/-- The law's holds, of three numbers. -/
def H3 (n : ByteArray) (x y z : Int) : Bool × Int := if (inB x && inB y && inB z) = true then meansL n x y z else (false, 50)
theorem in64_of {x : Int} (h : inB x = true) : in64 x = true := by
  simp only [inB, in64, Bool.and_eq_true, decide_eq_true_eq] at h ⊢
  omega
theorem vars_c3 (x y z : Int) : varsL [tA (cT x), tA (cT y), tA (cT z)] = [] := by
  simp [varsL, varsRaw, tA, cT, sortI, Lib.compact, Lib.compactUpTo]
theorem values_c3 (x y z : Int) : valuesL [] [tA (cT x), tA (cT y), tA (cT z)] = [[⟨false, x, []⟩], [⟨false, y, []⟩], [⟨false, z, []⟩]] := by
  simp [valuesL, tA, cT, ofT]
theorem HoldsL_c3 {n : ByteArray} (h : Name3 n) (x y z : Int) : HoldsL arithFam n [tA (cT x), tA (cT y), tA (cT z)] [] (meansL n x y z).1 (meansL n x y z).2 = H3 n x y z := by
  unfold HoldsL H3
  rw [right3 h, h.row, vars_c3]
  simp only [asks_cT, List.map_nil, rightVars]
  cases hq : (inB x && inB y && inB z) <;> simp
theorem arith_Holds_c3 {n : ByteArray} (h : Name3 n) (x y z : Int) (A : Option Addr) (c : Nat) (w : World) (hm : ML w) (ha : kArg.C w A 3 [tA (cT x), tA (cT y), tA (cT z)]) :
    Calls Tryz.prog 38 #[.agg #[.string n, .slice A 3 c], .slice none 0 0] w fun e w' => e = .returned (.tuple #[.bool (H3 n x y z).1, .int .i64 (H3 n x y z).2]) ∧ Bel w w' := by
  have hc := arith_Holds3 h (vs := []) (b := (meansL n x y z).1) (x := (meansL n x y z).2) A c none 0 w hm ha (Kd.C_nil _ _) (fun hq _ => by
    simp only [List.map_nil, asks_cT, Bool.and_eq_true] at hq
    rw [values_c3]
    exact arith_means n _ _ _ h.thr (in64_of hq.1.1) (in64_of hq.1.2)) (by simp)
  rw [HoldsL_c3 h] at hc
  exact hc
theorem lit_Args3 (w : World) (a0 a1 a2 : Arg) {A0 A1 A2 : Option Addr} {c0 c1 c2 : Nat} (l0 : a0.l.length ≤ c0) (l1 : a1.l.length ≤ c1) (l2 : a2.l.length ≤ c2) (h0 : kTerm.C w A0 a0.l.length a0.l) (h1 : kTerm.C w A1 a1.l.length a1.l) (h2 : kTerm.C w A2 a2.l.length a2.l) :
    kArg.C (w.alloc (.cells #[.bool a0.array, .slice A0 a0.l.length c0, .bool a1.array, .slice A1 a1.l.length c1, .bool a2.array, .slice A2 a2.l.length c2] 62)) (some ⟨w.heap.size, 0, none⟩) 3 [a0, a1, a2] := by
  refine C_of_at (xs := [a0, a1, a2]) (by simp) ?_
  intro j x hx
  match j, hx with
  | 0, hx =>
    obtain rfl : a0 = x := by simpa using hx
    refine ⟨_, kArg_mk _ a0 l0 (Kd.now h0 inferInstance), fun i u hu => ?_⟩
    match i, hu with
    | 0, hu => exact at_lit _ hu
    | 1, hu => exact at_lit _ hu
  | 1, hx =>
    obtain rfl : a1 = x := by simpa using hx
    refine ⟨_, kArg_mk _ a1 l1 (Kd.now h1 inferInstance), fun i u hu => ?_⟩
    match i, hu with
    | 0, hu => exact at_lit _ hu
    | 1, hu => exact at_lit _ hu
  | 2, hx =>
    obtain rfl : a2 = x := by simpa using hx
    refine ⟨_, kArg_mk _ a2 l2 (Kd.now h2 inferInstance), fun i u hu => ?_⟩
    match i, hu with
    | 0, hu => exact at_lit _ hu
    | 1, hu => exact at_lit _ hu
set_option maxHeartbeats 1000000 in
theorem law_holds {n : ByteArray} (h : Name3 n) (x y z : Int) (w : World) (hm : ML w) :
    Calls Tryz.prog 42 #[.string n, .int .i64 x, .int .i64 y, .int .i64 z] w fun e w' => e = .returned (.tuple #[.bool (H3 n x y z).1, .int .i64 (H3 n x y z).2]) ∧ Bel w w' := by
  have HM := Lib.hid hm
  have HH := Lib.hid h
  obtain ⟨r, hr⟩ : ∃ r, H3 n x y z = r := ⟨_, rfl⟩
  rw [hr]
  have HR := Lib.hid hr
  clear hm h hr
  go_enter Tryz.func42, Tryz.ntmps42
  go_wp2_with fail
  refine (law_term x _).mono ?_
  rintro e w1 ⟨A1, c1, rfl, l1, C1, HB1⟩
  have K1 := Lib.hid C1
  clear C1
  go_wp2_with fail
  refine (law_term y _).mono ?_
  rintro e w2 ⟨A2, c2, rfl, l2, C2, HB2⟩
  have K2 := Lib.hid C2
  clear C2
  go_wp2_with fail
  refine (law_term z _).mono ?_
  rintro e w3 ⟨A3, c3, rfl, l3, C3, HB3⟩
  have K3 := Lib.hid C3
  clear C3
  have HB := Lib.hid ((HB1.trans HB2).trans HB3)
  go_wp2_with fail
  refine (arith_Holds_c3 HH.out x y z _ _ _ (HM.out.bel (HB.out.trans inferInstance)) (lit_Args3 w3 (cA x) (cA y) (cA z) l1 l2 l3 (Kd.now K1.out (HB2.trans HB3)) (Kd.now K2.out HB3) K3.out)).mono ?_
  rintro e w4 ⟨rfl, HB4⟩
  rw [HR.out]
  go_wp2
  go_ret2
  exact ⟨rfl, HB.out.trans (Bel.trans inferInstance HB4)⟩
end Go.Proofs.YtkdedpofghlmoaaGreatDoor
