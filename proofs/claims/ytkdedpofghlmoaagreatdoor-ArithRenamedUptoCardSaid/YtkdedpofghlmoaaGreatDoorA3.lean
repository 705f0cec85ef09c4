/- What arith.Holds says of every constraint and all values. No statement is proved here. -/
import Derived.Test.YtkdedpofghlmoaaGreatDoorA1
import Derived.Test.YtkdedpofghlmoaaGreatDoorD4
import Derived.IntWalk
import Derived.BigRegion
import Derived.Test.YtkdedpofghlmoaaGreatDoorT2
import Derived.Test.YtkdedpofghlmoaaGreatDoorT4
import Derived.Test.YtkdedpofghlmoaaGreatDoorL2
set_option linter.unusedVariables false
set_option linter.unusedSimpArgs false
namespace Go.Proofs.YtkdedpofghlmoaaGreatDoor
open Go.RowKit Go.Proofs.YtkdedpofghlmoaaGreatDoorW.PrintWords
def eqI : List Int → List Int → Bool
  | a :: l, b :: m => if (a != b) = true then false else eqI l m
  | _, _ => true
theorem eqI_eq : ∀ l m : List Int, l.length = m.length → eqI l m = decide (l = m)
  | [], [], _ => by simp [eqI]
  | a :: l, b :: m, h => by
    have ih := eqI_eq l m (by simpa using h)
    rw [eqI, ih]
    by_cases h1 : a = b
    · subst h1
      simp
    · have h2 : (a != b) = true := by simpa using h1
      rw [if_pos h2]
      symm
      rw [decide_eq_false_iff_not]
      intro e
      injection e with e1 e2
      exact h1 e1
set_option maxHeartbeats 1000000 in
theorem equal_I (A B : Option Addr) (c d : Nat) (l m : List Int) (w : World) (hr : (Kd.int .i64).C w A l.length l) (hs : (Kd.int .i64).C w B m.length m) :
    Calls Tryz.prog 138 #[.slice A l.length c, .slice B m.length d] w fun e w' => e = .returned (.bool (decide (l = m))) ∧ Bel w w' := by
  have hn := C_len hr
  have HR := Lib.hid hr
  have HS := Lib.hid hs
  clear hr hs
  by_cases hne : l.length = m.length
  · have h0 : ((l.length : Int) != (m.length : Int)) = false := by simp [hne]
    have HF := Lib.hid (eqI_eq l m hne)
    have HE := Lib.hid hne
    clear hne
    go_enter Tryz.func138, Tryz.ntmps138
    go_wp2
    go_loopw [13] (fun i wr => ∃ (k : Nat), k ≤ l.length ∧ i = .int .i64 k ∧ Bel w wr ∧ Hid (eqI (l.drop k) (m.drop k) = decide (l = m))) (fun i _ => l.length - (intOf i).toNat)
    case atStart => exact ⟨0, by omega, rfl, inferInstance, Lib.hid (by simpa using HF.out)⟩
    case round =>
      obtain ⟨k, hk, rfl, HB, HX⟩ := hrel
      by_cases hlt : k < l.length
      · have hlt2 : k < m.length := by have := HE.out; omega
        obtain ⟨r, hr⟩ : ∃ r, l[k]? = some r := ⟨l[k], List.getElem?_eq_getElem hlt⟩
        obtain ⟨s, hs⟩ : ∃ r, m[k]? = some r := ⟨m[k], List.getElem?_eq_getElem hlt2⟩
        obtain ⟨ad, rfl, c0⟩ := Int.nth HR.out hr
        obtain ⟨bd, rfl, d0⟩ := Int.nth HS.out hs
        have HX' := HX.out
        rw [drop_at hr, drop_at hs, eqI] at HX'
        clear hr hs HX
        replace c0 := HB.cell c0
        replace d0 := HB.cell d0
        cases hb : (r != s) <;> (rw [hb] at HX'; replace HX' := Lib.hid HX')
        · go_wp2
          go_quiet (fail)
          go_wp2
          go_roundw
          case rel => exact ⟨k + 1, by omega, by go_num, inferInstance, Lib.hid (by simpa using HX'.out)⟩
          case measure => simp [intOf]; omega
        · go_wp2
          go_quiet (fail)
          go_wp2
          go_ret
          exact ⟨ret_b (by simpa using HX'.out), inferInstance⟩
      · go_wp2
        go_ret
        have : k = l.length := by omega
        subst this
        exact ⟨ret_b (by have := HX.out; rw [List.drop_length, HE.out, List.drop_length] at this; exact this), HB⟩
  · have h0 : ((l.length : Int) != (m.length : Int)) = true := by simp; omega
    have HF := Lib.hid (show decide (l = m) = false from decide_eq_false (fun e => hne (by rw [e])))
    clear hne
    go_enter Tryz.func138, Tryz.ntmps138
    go_wp2
    go_ret
    exact ⟨ret_b HF.out.symm, inferInstance⟩
def nAbs : ByteArray := ⟨#[105, 110, 116, 95, 97, 98, 115]⟩
set_option maxRecDepth 100000 in
set_option maxHeartbeats 2000000 in
theorem arith_abs (x y : Val) (hx : inB x.n = true) : MeansIs 78 nAbs [[x], [y]] (mxi x.n (-x.n) == y.n) 0 := by
  refine ⟨fun _ _ => Tryz.call78 _ _, ?_⟩
  intro A c W0 hc hC
  obtain ⟨ad, A0, c0, rfl, a0, _, hC0⟩ := Sl.nth hC (k := 0) (x := [x]) rfl
  obtain ⟨ad1, A1, c1, e1, a1, _, hC1⟩ := Sl.nth hC (k := 1) (x := [y]) rfl
  cases e1
  obtain ⟨bd0, _, _, rfl, _, b0, _, _, _⟩ := Val.nth hC0 (k := 0) (x := x) rfl
  obtain ⟨bd1, _, _, rfl, _, b1, _, _, _⟩ := Val.nth hC1 (k := 0) (x := y) rfl
  have hb : -1000000 ≤ x.n ∧ x.n ≤ 1000000 := by simpa [inB] using hx
  have hneg : IntKind.i64.wrap (-x.n) = -x.n := IntWalk.i64_in _ (by omega)
  clear hx hC hC0 hC1
  simp only [Nat.zero_mul, Addr.add_zero', List.length_cons, List.length_nil, Nat.zero_add] at a0 b0 b1 a1
  rw [show ad.add 1 = ⟨ad.block, ad.off + 1, none⟩ from rfl] at a1
  unfold nAbs
  go_enter Tryz.func78, Tryz.ntmps78
  go_wp2
  go_quiet (fail)
  go_wp2
  go_ret2
  exact ⟨rfl, inferInstance⟩
def elemB (i : Int) (l : List Val) (y : Val) : Bool := if i - 1 < 0 then false else if (l.length : Int) ≤ i - 1 then false else ((l.getD (i - 1).toNat ⟨false, 0, []⟩).n == y.n) && decide ((l.getD (i - 1).toNat ⟨false, 0, []⟩).s = y.s)
set_option maxRecDepth 100000 in
set_option maxHeartbeats 2000000 in
theorem arith_elem (n : ByteArray) (hpre : preB n ⟨#[97, 114, 114, 97, 121, 95]⟩ = true) (hna : (n.toList == [105, 110, 116, 95, 97, 98, 115]) = false) (i : Val) (l : List Val) (y : Val) (hi : inB i.n = true) (hl : l.length ≤ 1000) : MeansIs 78 n [[i], l, [y]] (elemB i.n l y) 0 := by
  refine ⟨fun _ _ => Tryz.call78 _ _, ?_⟩
  intro A c W0 hc hC
  obtain ⟨ad, A0, c0, rfl, a0, _, hC0⟩ := Sl.nth hC (k := 0) (x := [i]) rfl
  obtain ⟨ad1, A1, c1, e1, a1, _, hC1⟩ := Sl.nth hC (k := 1) (x := l) rfl
  cases e1
  obtain ⟨ad2, A2, c2, e2, a2, _, hC2⟩ := Sl.nth hC (k := 2) (x := [y]) rfl
  cases e2
  obtain ⟨bd0, _, _, rfl, _, b0, _, _, _⟩ := Val.nth hC0 (k := 0) (x := i) rfl
  obtain ⟨bd2, Y, cy, rfl, y0, y1, y2, hyl, hYC⟩ := Val.nth hC2 (k := 0) (x := y) rfl
  have HP := Lib.hid hpre
  have hb : -1000000 ≤ i.n ∧ i.n ≤ 1000000 := by simpa [inB] using hi
  have HC1 := Lib.hid hC1
  have HYC := Lib.hid hYC
  clear hpre hi hC hC0 hC1 hC2 hYC
  simp only [Nat.zero_mul, Addr.add_zero', List.length_cons, List.length_nil, Nat.zero_add] at a0 b0 a1 a2 y0 y1 y2
  rw [show ad.add 1 = ⟨ad.block, ad.off + 1, none⟩ from rfl] at a1
  rw [show ad.add 2 = ⟨ad.block, ad.off + 2, none⟩ from rfl] at a2
  unfold elemB
  have hw1 : wrap64 (i.n - 1) = i.n - 1 := IntWalk.wrap64_in _ (by omega)
  by_cases h1 : i.n - 1 < 0
  · rw [if_pos h1]
    go_enter Tryz.func78, Tryz.ntmps78
    go_wp2_with (go_at_call 137; refine (strings_HasPrefix _ _ _).mono ?_; rintro e1 wA ⟨rfl, rfl⟩; rw [HP.out])
    go_ret2
    exact ⟨rfl, inferInstance⟩
  · rw [if_neg h1]
    by_cases h2 : (l.length : Int) ≤ i.n - 1
    · rw [if_pos h2]
      go_enter Tryz.func78, Tryz.ntmps78
      go_wp2_with (go_at_call 137; refine (strings_HasPrefix _ _ _).mono ?_; rintro e1 wA ⟨rfl, rfl⟩; rw [HP.out])
      go_ret2
      exact ⟨rfl, inferInstance⟩
    · rw [if_neg h2]
      obtain ⟨k, hk⟩ : ∃ k : Nat, i.n - 1 = (k : Int) := ⟨(i.n - 1).toNat, by omega⟩
      replace hw1 := hw1.trans hk
      rw [hk] at h1 h2 ⊢
      have hkl : k < l.length := by omega
      obtain ⟨x, hx⟩ : ∃ x, l[k]? = some x := ⟨l[k], List.getElem?_eq_getElem hkl⟩
      obtain ⟨xd, X, cx, rfl, x0, x1, x2, hxl, hXC⟩ := Val.nth HC1.out hx
      have hgx : l.getD (k : Int).toNat ⟨false, 0, []⟩ = x := by rw [Int.toNat_natCast, List.getD_eq_getElem?_getD, hx]; rfl
      rw [hgx]
      have HXC := Lib.hid hXC
      clear hgx hx hXC hk hb HC1
      have a1 := fun (V : World) [h : Bel W0 V] => h.cell a1
      have a2 := fun (V : World) [h : Bel W0 V] => h.cell a2
      have x0 := fun (V : World) [h : Bel W0 V] => h.cell x0
      have x1 := fun (V : World) [h : Bel W0 V] => h.cell x1
      have x2 := fun (V : World) [h : Bel W0 V] => h.cell x2
      have y0 := fun (V : World) [h : Bel W0 V] => h.cell y0
      have y1 := fun (V : World) [h : Bel W0 V] => h.cell y1
      have y2 := fun (V : World) [h : Bel W0 V] => h.cell y2
      go_enter Tryz.func78, Tryz.ntmps78
      go_upto_region 7 with (go_at_call 137; refine (strings_HasPrefix _ _ _).mono ?_; rintro e1 wA ⟨rfl, rfl⟩; rw [HP.out])
      go_cut [7, 8] from 55 to 65 (fun a b wx => ∃ g h, a = .pointer (some ⟨g, 0, none⟩) ∧ b = .pointer (some ⟨h, 0, none⟩) ∧ wx.cell? ⟨g, 1, none⟩ = some (.int .i64 x.n) ∧ wx.cell? ⟨g, 2, none⟩ = some (.slice X x.s.length cx) ∧ wx.cell? ⟨h, 1, none⟩ = some (.int .i64 y.n) ∧ wx.cell? ⟨h, 2, none⟩ = some (.slice Y y.s.length cy) ∧ Bel wA wx)
      case first =>
        go_region
        all_goals
          go_wp2_with fail
          go_meet
          refine ⟨_, _, rfl, rfl, ?_, ?_, ?_, ?_, inferInstance⟩
          all_goals first | exact row_cell ((heap_alloc_old _ _ (by simp)).trans (heap_alloc_new wA _)) 1 | exact row_cell ((heap_alloc_old _ _ (by simp)).trans (heap_alloc_new wA _)) 2 | exact row_cell (heap_alloc2_new wA _ _) 1 | exact row_cell (heap_alloc2_new wA _ _) 2
      case rest =>
        obtain ⟨g, h, rfl, rfl, g1, g2, h1', h2', hb⟩ := hcut
        have HB := Lib.hid hb
        clear a1 a2 x0 x1 x2 y0 y1 y2 hb
        cases hxy : (x.n == y.n) with
        | false =>
          go_wp2
          go_ret2
          exact ⟨by simp [hxy], HB.out⟩
        | true =>
          go_wp2_with fail
          refine (equal_I _ _ _ _ x.s y.s _ (Kd.now HXC.out (HB.out.trans inferInstance)) (Kd.now HYC.out (HB.out.trans inferInstance))).mono ?_
          rintro e2 w2 ⟨rfl, HB2⟩
          go_wp2
          go_ret2
          exact ⟨by simp [hxy], HB.out.trans (Bel.trans inferInstance HB2)⟩
end Go.Proofs.YtkdedpofghlmoaaGreatDoor
set_option linter.unusedVariables false
set_option linter.unusedSimpArgs false
namespace Go.Proofs.YtkdedpofghlmoaaGreatDoor
open Go.RowKit Go.Proofs.YtkdedpofghlmoaaGreatDoorW.PrintWords
def truthB (row : List Val) : Bool := row.all fun x => decide (x.n = 0) || decide (x.n = 1)
def truthsOk (vals : List (List Val)) (ts : List Int) : Bool := ts.all fun i => truthB (vals.getD i.toNat [])
def mindT (vals : List (List Val)) (ts : List Int) (r : Bool × Int) : Bool × Int := if truthsOk vals ts then r else (false, 0)
set_option maxRecDepth 100000 in
set_option maxHeartbeats 2000000 in
theorem tool_holdsT {mf : Nat} {name : ByteArray} {args : List Arg} {vs : List Val} {b : Bool} {x : Int} (hcall : ∀ args w, (callFunc mf args).run Tryz.prog w = .ok (.enter mf args) w)
    (HM : truthsOk (valuesL vs args) (truthsL name) = true → MeansIs mf name (valuesL vs args) b x) (A : Option Addr) (c : Nat) (B : Option Addr) (d : Nat) (w : World) (hm : ML w)
    (ha : kArg.C w A args.length args) (hv : kVal.C w B vs.length vs) (hl : ∀ a ∈ args, a.l.length ≤ 1000) (hn : args.length ≤ 1000) (hti : ∀ i ∈ truthsL name, 0 ≤ i ∧ i < args.length) (hf : (findR name).form.size < 4294967281) (hp : ∀ p ∈ partsL (findR name).form, p.size ≤ 1000) :
    Calls Tryz.prog 90 #[.agg #[.string name, .slice A args.length c], .slice B vs.length d, .func (.func mf) #[] #[]] w fun e' w' => e' = .returned (.tuple #[.bool (mindT (valuesL vs args) (truthsL name) (b, x)).1, .int .i64 (mindT (valuesL vs args) (truthsL name) (b, x)).2]) ∧ Bel w w' := by
  have HS := Lib.hid HM
  have HML := Lib.hid hm
  have HA := Lib.hid ha
  have HV := Lib.hid hv
  have HL := Lib.hid hl
  have HP := Lib.hid hp
  have HVL := Lib.hid (show (valuesL vs args).length = args.length from by simp [valuesL])
  have hvr : ∀ r ∈ valuesL vs args, r.length ≤ 1000 := by
    intro r hr
    simp only [valuesL, List.mem_map] at hr
    obtain ⟨a, ha, rfl⟩ := hr
    simpa using hl a ha
  have HVR := Lib.hid hvr
  obtain ⟨r, hr⟩ : ∃ r, mindT (valuesL vs args) (truthsL name) (b, x) = r := ⟨_, rfl⟩
  rw [hr]
  have HRR := Lib.hid hr
  clear HM hm ha hv hl hp hvr hr
  go_enter Tryz.func90, Tryz.ntmps90
  go_wp2_with fail
  refine (tool_values name _ _ args _ _ vs _ (Kd.now HA.out inferInstance) (Kd.now HV.out inferInstance) HL.out hn).mono ?_
  rintro e1 w1 ⟨A1, c1, rfl, hl1, hr1, HB1⟩
  have HR1 := Lib.hid hr1
  have c0 := Bel.box HB1 rfl 0 rfl
  have HB01 := Bel.trans (inferInstance : Bel w _) HB1
  clear hr1
  go_wp2_with fail
  refine (tool_truths name _ (HML.out.bel HB01) hf HP.out).mono ?_
  rintro e2 w2 ⟨A2, c2, rfl, hl2, hr2, HB2⟩
  have HR2 := Lib.hid hr2
  replace HR1 := Lib.hid (Kd.now HR1.out HB2)
  generalize hts : truthsL name = ts at *
  generalize hvs : valuesL vs args = vals at *
  have htn := C_len HR2.out
  have HB02 := HB01.trans HB2
  replace c0 := HB2.cell c0
  clear hr2 HB1 HB2 HB01 hts hvs HA HV HP HL hf
  go_wp2_with fail
  go_loopw [20] (fun i wr => ∃ (k : Nat), k ≤ ts.length ∧ i = .int .i64 k ∧ Hid (truthsOk vals (ts.drop k) = truthsOk vals ts) ∧ Bel w2 wr) (fun i _ => ts.length - (intOf i).toNat)
  case atStart => exact ⟨0, by omega, rfl, Lib.hid (by simp), inferInstance⟩
  case round =>
    obtain ⟨k, hk, rfl, HX, HB3⟩ := hrel
    by_cases hlt : k < ts.length
    · obtain ⟨z, hz⟩ : ∃ r, ts[k]? = some r := ⟨ts[k], List.getElem?_eq_getElem hlt⟩
      have hzi := hti z (List.mem_of_getElem? hz)
      obtain ⟨q, rfl⟩ : ∃ q : Nat, z = (q : Int) := ⟨z.toNat, by omega⟩
      have hq : q < vals.length := by have := hzi.2; have := HVL.out; omega
      have hqi : (q : Int) < (vals.length : Int) := by omega
      obtain ⟨row, hrow⟩ : ∃ r, vals[q]? = some r := ⟨vals[q], List.getElem?_eq_getElem hq⟩
      have hrl := HVR.out row (List.mem_of_getElem? hrow)
      obtain ⟨zd, rfl, z0⟩ := Int.nth HR2.out hz
      obtain ⟨ad, A0, c0', rfl, a0, hl0, hC0⟩ := Sl.nth HR1.out hrow
      have HC0 := Lib.hid hC0
      have HX2 := HX.out
      rw [drop_at hz, truthsOk, List.all_cons, Int.toNat_natCast, List.getD_eq_getElem?_getD, hrow, Option.getD_some] at HX2
      replace z0 := HB3.cell z0
      replace a0 := HB3.cell a0
      clear hzi hz hrow hC0 HX
      replace HX2 := Lib.hid HX2
      go_wp2_with fail
      go_loopw [29] (fun i wr' => ∃ (j : Nat), j ≤ row.length ∧ i = .int .i64 j ∧ Hid (truthB (row.drop j) = truthB row) ∧ Bel w2 wr') (fun i _ => row.length - (intOf i).toNat)
      case atStart => exact ⟨0, by omega, rfl, Lib.hid (by simp), inferInstance⟩
      case round =>
        obtain ⟨j, hj, rfl, HY, HB4⟩ := hrel
        by_cases hlj : j < row.length
        · obtain ⟨y, hy⟩ : ∃ r, row[j]? = some r := ⟨row[j], List.getElem?_eq_getElem hlj⟩
          obtain ⟨bd, A5, c5, rfl, v0, v1, v2, hl5, hC5⟩ := Val.nth HC0.out hy
          have HY2 := HY.out
          rw [drop_at hy, truthB, List.all_cons] at HY2
          replace v0 := HB4.cell v0
          replace v1 := HB4.cell v1
          replace v2 := HB4.cell v2
          clear hy hC5 HY
          by_cases h0 : y.n = 0
          · have h0' : (y.n != 0) = false := by simpa using h0
            have HY3 := Lib.hid (show truthB (row.drop (j + 1)) = truthB row from by rw [← HY2]; simp [truthB, h0])
            clear HY2
            go_wp2
            go_roundw
            case rel => exact ⟨j + 1, by omega, by go_num, HY3, inferInstance⟩
            case measure => simp [intOf]; omega
          · have h0' : (y.n != 0) = true := by simpa using h0
            by_cases h1 : y.n = 1
            · have h1' : (y.n != 1) = false := by simpa using h1
              have HY3 := Lib.hid (show truthB (row.drop (j + 1)) = truthB row from by rw [← HY2]; simp [truthB, h1])
              clear HY2
              go_wp2
              go_roundw
              case rel => exact ⟨j + 1, by omega, by go_num, HY3, inferInstance⟩
              case measure => simp [intOf]; omega
            · have h1' : (y.n != 1) = true := by simpa using h1
              have hno : truthB row = false := by rw [← HY2]; simp [h0, h1]
              have hno2 : truthsOk vals ts = false := by
                have := HX2.out
                rw [hno] at this
                simpa using this.symm
              have hrr := HRR.out
              rw [mindT, hno2, if_neg (by simp)] at hrr
              subst hrr
              clear HY2 hno hno2
              go_wp2
              go_ret2
              exact ⟨rfl, HB02.trans (Bel.trans HB4 inferInstance)⟩
        · obtain rfl : j = row.length := by omega
          have hy := HY.out
          rw [List.drop_length] at hy
          have hyt : truthB row = true := by rw [← hy]; rfl
          have HX3 := Lib.hid (show truthsOk vals (ts.drop (k + 1)) = truthsOk vals ts from by
            have h := HX2.out
            rw [hyt] at h
            simpa [truthsOk] using h)
          clear hy hyt HY HX2
          go_wp2
          go_roundw
          case rel => exact ⟨k + 1, by omega, by go_num, HX3, inferInstance⟩
          case measure => simp [intOf]; omega
    · obtain rfl : k = ts.length := by omega
      have hx := HX.out
      rw [List.drop_length] at hx
      have hok : truthsOk vals ts = true := by rw [← hx]; rfl
      have HMI := Lib.hid (HS.out hok)
      have hrr := HRR.out
      rw [mindT, hok, if_pos rfl] at hrr
      subst hrr
      have c1' := HB3.cell c0
      clear hx HX hok c0
      go_wp2_with fail
      refine (HMI.out.says _ _ _ hl1 (Kd.now HR1.out HB3)).mono ?_
      rintro e3 w3 ⟨rfl, HB4⟩
      go_wp2
      go_ret2
      exact ⟨rfl, (HB02.trans HB3).trans HB4⟩
end Go.Proofs.YtkdedpofghlmoaaGreatDoor
set_option linter.unusedVariables false
set_option linter.unusedSimpArgs false
namespace Go.Proofs.YtkdedpofghlmoaaGreatDoor
open Go.RowKit Go.Proofs.YtkdedpofghlmoaaGreatDoorW.PrintWords
set_option maxRecDepth 100000 in
set_option maxHeartbeats 4000000 in
theorem tool_HoldsH {mf : Nat} {fam name : ByteArray} {args : List Arg} {vs : List Val} {b : Bool} {x : Int} (A : Option Addr) (c : Nat) (B : Option Addr) (d : Nat) (w : World) (hm : ML w)
    (ha : kArg.C w A args.length args) (hv : kVal.C w B vs.length vs) (hpl : plainB name = true) (hf : (findR name).form.size < 4294967281) (hne : (findR name).form.toList.isEmpty = false) (hp : ∀ p ∈ partsL (findR name).form, 1 ≤ p.size ∧ p.size ≤ 1000)
    (hpn : (partsL (findR name).form).length ≤ 1000) (HH : rightE name args (vs.map Val.set) = 0 → rightVars vs (varsL args) = true → ∀ (W : World), Bel w W → Calls Tryz.prog 90 #[.agg #[.string name, .slice A args.length c], .slice B vs.length d, .func (.func mf) #[] #[]] W fun e' w' => e' = .returned (.tuple #[.bool b, .int .i64 x]) ∧ Bel W w') (hvs : vs.length ≤ 1099511627776) :
    Calls Tryz.prog 43 #[.agg #[.string name, .slice A args.length c], .slice B vs.length d, .string fam, .func (.func mf) #[] #[]] w fun e w' => e = .returned (.tuple #[.bool (HoldsL fam name args vs b x).1, .int .i64 (HoldsL fam name args vs b x).2]) ∧ Bel w w' := by
  obtain ⟨r, hr⟩ : ∃ r, HoldsL fam name args vs b x = r := ⟨_, rfl⟩
  rw [hr]
  unfold HoldsL at hr
  have HML := Lib.hid hm
  have HA := Lib.hid ha
  have HV := Lib.hid hv
  have HPL := Lib.hid hpl
  have HP := Lib.hid hp
  have HS := Lib.hid HH
  have HNE := Lib.hid hne
  clear hm ha hv hpl hp HH hne
  cases hfam : ((findR name).family.toList == fam.toList) with
  | false =>
    rw [if_pos hfam] at hr
    subst hr
    have hfam' := hfam
    go_enter Tryz.func43, Tryz.ntmps43
    go_wp2_with (go_at_call 86; refine (cons_Family name _).mono ?_; rintro e w1 ⟨rfl, HB1⟩)
    go_ret2
    exact ⟨rfl, Bel.trans inferInstance HB1⟩
  | true =>
    rw [if_neg (by simp [hfam])] at hr
    have hfam' := hfam
    have HR := Lib.hid hr
    clear hr hfam
    go_enter Tryz.func43, Tryz.ntmps43
    go_wp2_with fail
    refine (cons_Family name _).mono ?_
    rintro e w1 ⟨rfl, HB1⟩
    have b0 : w1.cell? ⟨w.heap.size, 0, none⟩ = some (.string name) := Bel.box HB1 rfl 0 rfl
    have b1 : w1.cell? ⟨w.heap.size, 1, none⟩ = some (.slice A args.length c) := Bel.box HB1 rfl 1 rfl
    have HB0 := Bel.trans (inferInstance : Bel w _) HB1
    clear HB1
    go_wp2_with fail
    go_loopw [10, 23] (fun v i wr => ∃ (k : Nat) (out : List Bool), k ≤ vs.length ∧ i = .int .i64 k ∧ out.length = k ∧ AccB w1 wr v out ∧ Hid (out ++ (vs.drop k).map Val.set = vs.map Val.set)) (fun _ i _ => vs.length - (intOf i).toNat)
    case atStart => exact ⟨0, [], by omega, rfl, by simp, inferInstance, Lib.hid (by simp)⟩
    case round =>
      obtain ⟨k, out, hk, rfl, ho, HO, HX⟩ := hrel
      by_cases hlt : k < vs.length
      · obtain ⟨y, hy⟩ : ∃ r, vs[k]? = some r := ⟨vs[k], List.getElem?_eq_getElem hlt⟩
        obtain ⟨bd, A2, c2, rfl, v0, v1, v2, hl2, hC2⟩ := Val.nth HV.out hy
        have HX' := HX.out
        rw [drop_at hy, List.map_cons] at HX'
        replace HX' := Lib.hid HX'
        replace v0 := HO.cell (HB0.cell v0)
        replace v1 := HO.cell (HB0.cell v1)
        replace v2 := HO.cell (HB0.cell v2)
        clear hy HX hC2
        go_wp2_with (at_builtin; refine AccB.app HO rfl rfl rfl rfl (by simp) inferInstance (by omega) ?_; intro v1 w2 HO2 hk2; clear hk2)
        go_roundw
        case rel => exact ⟨k + 1, _, by omega, by go_num, by simp; omega, HO2, Lib.hid (by have := HX'.out; simpa using this)⟩
        case measure => simp [intOf]; omega
      · obtain rfl : k = vs.length := by omega
        have hx := HX.out
        rw [List.drop_length, List.map_nil, List.append_nil] at hx
        obtain ⟨A2, c2, rfl, hl2, hr2⟩ := Acc.reads HO
        have HKS := Lib.hid hr2
        have HX' := Lib.hid hx
        have HBk := HB0.trans HO.bel
        replace b0 := HO.cell b0
        replace b1 := HO.cell b1
        clear hx hr2 HX ho
        go_wp2_with fail
        refine (cons_Right name _ _ args _ _ out _ (HML.out.bel HBk) (Kd.now HA.out HBk) HKS.out HPL.out hf HNE.out HP.out).mono ?_
        rintro e w2 ⟨rfl, HB2⟩
        rw [HX'.out]
        replace b0 := HB2.cell b0
        replace b1 := HB2.cell b1
        replace HBk := HBk.trans HB2
        obtain ⟨re, hre⟩ : ∃ re, rightE name args (vs.map Val.set) = re := ⟨_, rfl⟩
        rw [hre]
        have hr := HR.out
        rw [hre] at hr
        by_cases h0 : re = 0
        · subst h0
          rw [if_neg (by simp)] at hr
          have hz := right_zero hre
          have HVI := Lib.hid (fun k hk => vars_in hre (k := k) hk)
          have HL := Lib.hid (long_le hz.2.2.1)
          have hal : args.length ≤ 1000 := by rw [← hz.1]; exact hpn
          have HE := Lib.hid hre
          have HR2 := Lib.hid hr
          clear hr hre hz
          go_wp2_with fail
          refine (cons_Vars name _ _ args _ (Kd.now HA.out HBk) HL.out hal).mono ?_
          rintro e w3 ⟨v3, rfl, HO3⟩
          obtain ⟨A3, c3, rfl, hl3, hr3⟩ := Acc.reads HO3
          have HR3 := Lib.hid hr3
          replace b0 := HO3.cell b0
          replace b1 := HO3.cell b1
          replace HBk := HBk.trans HO3.bel
          clear hr3
          generalize hvl : varsL args = vl at *
          have HVL := Lib.hid hvl
          have hvn := C_len HR3.out
          clear hvl HX' HKS
          go_wp2_with fail
          go_loopw [42] (fun i wr => ∃ (k : Nat), k ≤ vl.length ∧ i = .int .i64 k ∧ Hid (rightVars vs (vl.drop k) = rightVars vs vl) ∧ Bel w3 wr) (fun i _ => vl.length - (intOf i).toNat)
          case atStart => exact ⟨0, by omega, rfl, Lib.hid (by simp), inferInstance⟩
          case round =>
            obtain ⟨k, hk, rfl, HX, HB4⟩ := hrel
            by_cases hlt : k < vl.length
            · obtain ⟨z, hz⟩ : ∃ r, vl[k]? = some r := ⟨vl[k], List.getElem?_eq_getElem hlt⟩
              have hzi := HVI.out z (List.mem_of_getElem? hz)
              obtain ⟨q, rfl⟩ : ∃ q : Nat, z = (q : Int) := ⟨z.toNat, by omega⟩
              have hq : q < vs.length := by have := hzi.2; simp at this; omega
              have hqi : (q : Int) < (vs.length : Int) := by omega
              obtain ⟨y, hy⟩ : ∃ r, vs[q]? = some r := ⟨vs[q], List.getElem?_eq_getElem hq⟩
              obtain ⟨zd, rfl, z0⟩ := Int.nth HR3.out hz
              obtain ⟨bd, A5, c5, rfl, v0, v1, v2, hl5, hC5⟩ := Val.nth HV.out hy
              have HC5 := Lib.hid hC5
              have HX2 := HX.out
              rw [drop_at hz, rightVars, Int.toNat_natCast, List.getD_eq_getElem?_getD, hy, Option.getD_some] at HX2
              replace z0 := HB4.cell z0
              have hBw := HBk.trans HB4
              replace v0 := hBw.cell v0
              replace v1 := hBw.cell v1
              replace v2 := hBw.cell v2
              clear hzi hz hy hC5 HX
              cases hrv : rightValB y with
              | true =>
                rw [hrv, if_pos rfl] at HX2
                replace HX2 := Lib.hid HX2
                have HY := Lib.hid hrv
                clear hrv
                go_wp2_with fail
                refine (tool_rightVal y _ _ _ (Kd.now HC5.out hBw)).mono ?_
                rintro e w5 ⟨rfl, HB5⟩
                rw [HY.out]
                go_wp2
                go_roundw
                case rel => exact ⟨k + 1, by omega, by go_num, HX2, HB4.trans HB5⟩
                case measure => simp [intOf]; omega
              | false =>
                rw [hrv, if_neg (by simp)] at HX2
                have hr := HR2.out
                rw [if_pos HX2.symm] at hr
                subst hr
                have HY := Lib.hid hrv
                clear hrv HX2 HR2
                go_wp2_with fail
                refine (tool_rightVal y _ _ _ (Kd.now HC5.out hBw)).mono ?_
                rintro e w5 ⟨rfl, HB5⟩
                rw [HY.out]
                go_wp2
                go_ret2
                exact ⟨rfl, hBw.trans HB5⟩
            · obtain rfl : k = vl.length := by omega
              have hx := HX.out
              rw [List.drop_length, rightVars] at hx
              have hr := HR2.out
              rw [← hx, if_neg (by simp)] at hr
              subst hr
              have HMI := Lib.hid (HS.out HE.out hx.symm)
              have c0 := HB4.cell b0
              have c1 := HB4.cell b1
              have hBw := HBk.trans HB4
              clear hx HX b0 b1 HR2
              go_wp2_with fail
              refine (HMI.out _ hBw).mono ?_
              rintro e w6 ⟨rfl, HB6⟩
              go_wp2
              go_ret2
              exact ⟨rfl, hBw.trans HB6⟩
        · clear HKS HX' HO
          rw [if_pos h0] at hr
          subst hr
          go_wp2
          go_ret2
          exact ⟨rfl, HBk⟩
end Go.Proofs.YtkdedpofghlmoaaGreatDoor
set_option linter.unusedVariables false
set_option linter.unusedSimpArgs false
namespace Go.Proofs.YtkdedpofghlmoaaGreatDoor
open Go.RowKit Go.Proofs.YtkdedpofghlmoaaGreatDoorW.PrintWords
abbrev v0 : Val := ⟨false, 0, []⟩
theorem mem_compact {l : List Int} {k : Int} (h : k ∈ l) : k ∈ Lib.compact l := by
  have key : ∀ j, j < l.length → l[j]? = some k → k ∈ Lib.compact l := by
    intro j
    induction j with
    | zero =>
      intro hj he
      simp only [Lib.compact, Lib.compactUpTo, List.mem_map, List.mem_filter, List.mem_range]
      refine ⟨0, ⟨hj, by simp [Lib.keeps]⟩, ?_⟩
      simp [he]
    | succ j ih =>
      intro hj he
      by_cases hk : Lib.keeps l.toArray (j + 1) = true
      · simp only [Lib.compact, Lib.compactUpTo, List.mem_map, List.mem_filter, List.mem_range]
        exact ⟨j + 1, ⟨hj, hk⟩, by simp [he]⟩
      · refine ih (by omega) ?_
        simp only [Lib.keeps, Nat.succ_ne_zero, false_or, decide_eq_true_eq, ne_eq, Decidable.not_not, Nat.add_sub_cancel] at hk
        have h1 : l.toArray[j + 1]! = k := by simp [he]
        have h2 : l.toArray[j]! = k := by
          rw [← h1]
          simpa using hk.symm
        have hjl : j < l.length := by omega
        simp only [List.getElem?_eq_getElem hjl, Option.some.injEq]
        simpa [hjl] using h2
  obtain ⟨j, hj, rfl⟩ := List.getElem_of_mem h
  exact key j hj (List.getElem?_eq_getElem hj)
theorem mem_vars {args : List Arg} {a : Arg} {t : Term} (ha : a ∈ args) (ht : t ∈ a.l) (h0 : 0 ≤ t.var) : t.var ∈ varsL args := by
  unfold varsL
  refine mem_compact ?_
  rw [sortI, List.mem_mergeSort, List.mem_flatMap]
  refine ⟨a, ha, ?_⟩
  simp only [varsRaw, List.mem_filter, List.mem_map, decide_eq_true_eq]
  exact ⟨⟨t, ht, rfl⟩, h0⟩
theorem rightVars_all (vs : List Val) : ∀ l, rightVars vs l = l.all fun k => rightValB (vs.getD k.toNat v0)
  | [] => rfl
  | k :: l => by
    rw [rightVars, List.all_cons, rightVars_all vs l]
    cases rightValB (vs.getD k.toNat v0) <;> simp
/-- A whole number that stands where a form has I is within bounds. -/
theorem val_in {vs : List Val} {args : List Arg} {a : Arg} {t : Term} (hq : asksB 73 (vs.map Val.set) t = true) (hv : rightVars vs (varsL args) = true) (ha : a ∈ args) (ht : t ∈ a.l) : inB (ofT vs t).1.n = true := by
  simp only [asksB] at hq
  rw [if_neg (by decide), if_neg (by decide), if_neg (by decide), if_pos trivial] at hq
  rcases Bool.or_eq_true_iff.1 hq with h | h
  · simp only [varR, Bool.and_eq_true, decide_eq_true_eq, List.length_map] at h
    obtain ⟨⟨⟨⟨⟨h0, h1⟩, h2⟩, _⟩, _⟩, _⟩ := h
    rw [rightVars_all, List.all_eq_true] at hv
    have hr := hv _ (mem_vars ha ht h0)
    have hlt : t.var.toNat < vs.length := by omega
    have hof : (ofT vs t).1 = vs.getD t.var.toNat v0 := by
      unfold ofT
      rw [if_neg (by omega), if_neg (by omega)]
    rw [hof]
    have hset : (vs.getD t.var.toNat v0).set = false := by
      have h3 : (vs.map Val.set).getD t.var.toNat false = false := by simpa using h2
      rw [List.getD_eq_getElem?_getD, List.getElem?_map, List.getElem?_eq_getElem hlt] at h3
      rw [List.getD_eq_getElem?_getD, List.getElem?_eq_getElem hlt]
      simpa using h3
    simp only [rightValB, hset, Bool.false_eq_true, if_false, Bool.and_eq_true, decide_eq_true_eq] at hr
    simp only [inB, Bool.and_eq_true, decide_eq_true_eq]
    exact ⟨hr.1.2, hr.2⟩
  · simp only [numR, Bool.and_eq_true, decide_eq_true_eq] at h
    have hof : (ofT vs t).1 = t.c := by
      unfold ofT
      rw [if_pos h.1.1.1.1]
    rw [hof]
    simp only [inB, Bool.and_eq_true, decide_eq_true_eq]
    exact ⟨h.1.2, h.2⟩
def preArray : ByteArray := ⟨#[97, 114, 114, 97, 121, 95]⟩
def numV (vals : List (List Val)) (i : Nat) : Int := ((vals.getD i []).getD 0 v0).n
/-- What a constraint of the family means, of its arguments' values. -/
def semL (n : ByteArray) (vals : List (List Val)) : Bool × Int :=
  if (n.toList == [105, 110, 116, 95, 97, 98, 115]) = true then (mxi (numV vals 0) (-(numV vals 0)) == numV vals 1, 0)
  else if preB n preArray = true then (elemB (numV vals 0) (vals.getD 1 []) ((vals.getD 2 []).getD 0 v0), 0)
  else meansL n (numV vals 0) (numV vals 1) (numV vals 2)
def arithL (name : ByteArray) (args : List Arg) (vs : List Val) : Bool × Int :=
  HoldsL arithFam name args vs (mindT (valuesL vs args) (truthsL name) (semL name (valuesL vs args))).1 (mindT (valuesL vs args) (truthsL name) (semL name (valuesL vs args))).2
/-- A name of an element of an array. -/
structure NameE (n : ByteArray) : Prop where
  fam : (findR n).family = arithFam
  plain : plainB n = true
  pre : preB n preArray = true
  nabs : (n.toList == [105, 110, 116, 95, 97, 98, 115]) = false
  size : (findR n).form.size ≤ 1000
  some : (findR n).form.toList.isEmpty = false
  parts : ∃ p1 p2, partsL (findR n).form = [part1, p1, p2] ∧ 1 ≤ p1.size ∧ p1.size ≤ 1000 ∧ 1 ≤ p2.size ∧ p2.size ≤ 1000 ∧ firstC p1 = 97 ∧ (firstC p2 == 97) = false
theorem nameE_of {n f p1 p2 : ByteArray} (hr : findR n = ⟨n, f, arithFam⟩) (h1 : plainB n = true) (h2 : preB n preArray = true) (h3 : (n.toList == [105, 110, 116, 95, 97, 98, 115]) = false) (hs : f.size ≤ 1000) (he : f.toList.isEmpty = false) (hp : partsL f = [part1, p1, p2])
    (h4 : 1 ≤ p1.size ∧ p1.size ≤ 1000 ∧ 1 ≤ p2.size ∧ p2.size ≤ 1000) (h5 : firstC p1 = 97) (h6 : (firstC p2 == 97) = false) : NameE n :=
  ⟨by rw [hr], h1, h2, h3, by rw [hr]; exact hs, by rw [hr]; exact he, ⟨p1, p2, by rw [hr]; exact hp, h4.1, h4.2.1, h4.2.2.1, h4.2.2.2, h5, h6⟩⟩
def nE1 : ByteArray := ⟨#[97, 114, 114, 97, 121, 95, 105, 110, 116, 95, 101, 108, 101, 109, 101, 110, 116]⟩
def nE2 : ByteArray := ⟨#[97, 114, 114, 97, 121, 95, 118, 97, 114, 95, 105, 110, 116, 95, 101, 108, 101, 109, 101, 110, 116]⟩
def nE3 : ByteArray := ⟨#[97, 114, 114, 97, 121, 95, 98, 111, 111, 108, 95, 101, 108, 101, 109, 101, 110, 116]⟩
def nE4 : ByteArray := ⟨#[97, 114, 114, 97, 121, 95, 118, 97, 114, 95, 98, 111, 111, 108, 95, 101, 108, 101, 109, 101, 110, 116]⟩
def nE5 : ByteArray := ⟨#[97, 114, 114, 97, 121, 95, 115, 101, 116, 95, 101, 108, 101, 109, 101, 110, 116]⟩
theorem name_E1 : NameE nE1 := nameE_of (f := ⟨#[73, 44, 97, 105, 44, 73]⟩) (p1 := ⟨#[97, 105]⟩) (p2 := ⟨#[73]⟩) (findR_D (by kernel_rfl)) (by unfold plainB; rw [ByteArray.toList_eq]; kernel_rfl) (by kernel_rfl) (by rw [ByteArray.toList_eq]; kernel_rfl) (by decide) (by rw [ByteArray.toList_eq]; rfl) (by kernel_rfl) (by decide) (by kernel_rfl) (by kernel_rfl)
theorem name_E2 : NameE nE2 := nameE_of (f := ⟨#[73, 44, 97, 73, 44, 73]⟩) (p1 := ⟨#[97, 73]⟩) (p2 := ⟨#[73]⟩) (findR_D (by kernel_rfl)) (by unfold plainB; rw [ByteArray.toList_eq]; kernel_rfl) (by kernel_rfl) (by rw [ByteArray.toList_eq]; kernel_rfl) (by decide) (by rw [ByteArray.toList_eq]; rfl) (by kernel_rfl) (by decide) (by kernel_rfl) (by kernel_rfl)
theorem name_E3 : NameE nE3 := nameE_of (f := ⟨#[73, 44, 97, 98, 44, 66]⟩) (p1 := ⟨#[97, 98]⟩) (p2 := ⟨#[66]⟩) (findR_D (by kernel_rfl)) (by unfold plainB; rw [ByteArray.toList_eq]; kernel_rfl) (by kernel_rfl) (by rw [ByteArray.toList_eq]; kernel_rfl) (by decide) (by rw [ByteArray.toList_eq]; rfl) (by kernel_rfl) (by decide) (by kernel_rfl) (by kernel_rfl)
theorem name_E4 : NameE nE4 := nameE_of (f := ⟨#[73, 44, 97, 66, 44, 66]⟩) (p1 := ⟨#[97, 66]⟩) (p2 := ⟨#[66]⟩) (findR_D (by kernel_rfl)) (by unfold plainB; rw [ByteArray.toList_eq]; kernel_rfl) (by kernel_rfl) (by rw [ByteArray.toList_eq]; kernel_rfl) (by decide) (by rw [ByteArray.toList_eq]; rfl) (by kernel_rfl) (by decide) (by kernel_rfl) (by kernel_rfl)
theorem name_E5 : NameE nE5 := nameE_of (f := ⟨#[73, 44, 97, 115, 44, 83]⟩) (p1 := ⟨#[97, 115]⟩) (p2 := ⟨#[83]⟩) (findR_D (by kernel_rfl)) (by unfold plainB; rw [ByteArray.toList_eq]; kernel_rfl) (by kernel_rfl) (by rw [ByteArray.toList_eq]; kernel_rfl) (by decide) (by rw [ByteArray.toList_eq]; rfl) (by kernel_rfl) (by decide) (by kernel_rfl) (by kernel_rfl)
def form2 : ByteArray := ⟨#[73, 44, 73]⟩
theorem row_abs : findR nAbs = ⟨nAbs, form2, arithFam⟩ := findR_D (by kernel_rfl)
theorem parts2 : partsL form2 = [part1, part1] := by kernel_rfl
theorem plain_abs : plainB nAbs = true := by unfold plainB; rw [ByteArray.toList_eq]; kernel_rfl
theorem abs_abs : (nAbs.toList == [105, 110, 116, 95, 97, 98, 115]) = true := by rw [ByteArray.toList_eq]; kernel_rfl
theorem findD_mem (n : ByteArray) : ∀ l, (∃ r ∈ l, r.name.data.toList = n.data.toList ∧ findD n l = r) ∨ findD n l = ⟨⟨#[]⟩, ⟨#[]⟩, ⟨#[]⟩⟩
  | [] => .inr rfl
  | r :: l => by
    rw [findD]
    split
    · rename_i h
      exact .inl ⟨r, List.mem_cons_self, by simpa using h, rfl⟩
    · rcases findD_mem n l with ⟨s, hs, h1, h2⟩ | h
      · exact .inl ⟨s, List.mem_cons_of_mem _ hs, h1, h2⟩
      · exact .inr h
def arithRows : List Row := rowsT.filter fun r => r.family.data.toList == arithFam.data.toList
theorem arithRows_names : arithRows.map (fun r => r.name) = [nPlus, nTimes, nDiv, nMod, nMin, nMax, nPow, nAbs, nE1, nE2, nE3, nE4, nE5] := by kernel_rfl
theorem arith_cases {n : ByteArray} (h : ((findR n).family.toList == arithFam.toList) = true) : Name3 n ∨ n = nAbs ∨ NameE n := by
  rw [ByteArray.toList_eq, ByteArray.toList_eq] at h
  have hf : findR n = findD n rowsT := findT_D n rowsT
  rcases findD_mem n rowsT with ⟨r, hr, h1, h2⟩ | hd
  · rw [hf, h2] at h
    have hm : r ∈ arithRows := by
      unfold arithRows
      rw [List.mem_filter]
      exact ⟨hr, h⟩
    have hn : n = r.name := by
      cases n
      cases hq : r.name
      rw [hq] at h1
      simp only at h1
      congr 1
      exact (Array.toList_inj.1 h1).symm
    have hm2 : n ∈ arithRows.map (fun r => r.name) := by
      rw [hn]
      exact List.mem_map.2 ⟨r, hm, rfl⟩
    rw [arithRows_names] at hm2
    simp only [List.mem_cons, List.mem_nil_iff, or_false] at hm2
    rcases hm2 with rfl | rfl | rfl | rfl | rfl | rfl | rfl | rfl | rfl | rfl | rfl | rfl | rfl
    · exact .inl name_plus
    · exact .inl name_times
    · exact .inl name_div
    · exact .inl name_mod
    · exact .inl name_min
    · exact .inl name_max
    · exact .inl name_pow
    · exact .inr (.inl rfl)
    · exact .inr (.inr name_E1)
    · exact .inr (.inr name_E2)
    · exact .inr (.inr name_E3)
    · exact .inr (.inr name_E4)
    · exact .inr (.inr name_E5)
  · rw [hf, hd] at h
    exact absurd h (by decide)
theorem head_one {a : Arg} {r : List Arg} {p : ByteArray} {ps : List ByteArray} (h : headR (a :: r) (p :: ps) = true) (hp : (firstC p == 97) = false) : ∃ t, a = tA t ∧ headR r ps = true := by
  rw [headR, hp] at h
  obtain ⟨ar, l⟩ := a
  cases ar with
  | true => simp at h
  | false =>
    match l, h with
    | [t], h => exact ⟨t, rfl, by simpa using h⟩
    | [], h => simp at h
    | _ :: _ :: _, h => simp at h
theorem head_arr {a : Arg} {r : List Arg} {p : ByteArray} {ps : List ByteArray} (h : headR (a :: r) (p :: ps) = true) (hp : firstC p = 97) : headR r ps = true := by
  rw [headR, hp] at h
  obtain ⟨ar, l⟩ := a
  cases ar with
  | true => simpa using h
  | false => simp at h
theorem truths_in (ps : List ByteArray) : ∀ (i : Nat), ∀ k ∈ truthsF i ps, (i : Int) ≤ k ∧ k < i + ps.length := by
  induction ps with
  | nil => intro i k hk; simp [truthsF] at hk
  | cons p ps ih =>
    intro i k hk
    rw [truthsF] at hk
    have hi := ih (i + 1) k
    split at hk
    · rcases List.mem_cons.1 hk with rfl | hk
      · simp; omega
      · have := hi hk
        simp only [List.length_cons]
        omega
    · have := hi hk
      simp only [List.length_cons]
      omega
end Go.Proofs.YtkdedpofghlmoaaGreatDoor
