/- The walk of tool.Holds at constraints without truths, over any meaning. No statement is proved here. -/
import Derived.Test.YtkdedpofghlmoaaGreatDoorT2
import Derived.Test.YtkdedpofghlmoaaGreatDoorVR
import Derived.Test.YtkdedpofghlmoaaGreatDoorK6
set_option linter.unusedVariables false
set_option linter.unusedSimpArgs false
namespace Go.Proofs.YtkdedpofghlmoaaGreatDoor
open Go.RowKit Go.Proofs.YtkdedpofghlmoaaGreatDoorW.PrintWords
def rightVars (vs : List Val) : List Int → Bool
  | [] => true
  | k :: l => if rightValB (vs.getD k.toNat ⟨false, 0, []⟩) then rightVars vs l else false
def HoldsL (fam name : ByteArray) (args : List Arg) (vs : List Val) (b : Bool) (x : Int) : Bool × Int :=
  if ((findR name).family.toList == fam.toList) = false then (false, 51) else if rightE name args (vs.map Val.set) ≠ 0 then (false, rightE name args (vs.map Val.set)) else if rightVars vs (varsL args) = false then (false, 1) else (b, x)
theorem asks_var {c : Int} {ks : List Bool} {t : Term} (h : asksB c ks t = true) (h0 : 0 ≤ t.var) : t.var < ks.length := by
  have hn : ∀ st n m lo hi, numR t.var st n m lo hi = true → False := by
    intro st n m lo hi h
    simp only [numR, Bool.and_eq_true, decide_eq_true_eq] at h
    omega
  have hs : ∀ st n s, setR t.var st n s = true → False := by
    intro st n s h
    simp only [setR, Bool.and_eq_true, decide_eq_true_eq] at h
    omega
  have hv : ∀ set st n m, varR ks set t.var st n m = true → t.var < ks.length := by
    intro set st n m h
    simp only [varR, Bool.and_eq_true, decide_eq_true_eq] at h
    omega
  unfold asksB at h
  split at h; · exact (hn _ _ _ _ _ h).elim
  split at h; · exact (hn _ _ _ _ _ h).elim
  split at h; · exact (hs _ _ _ h).elim
  split at h
  · rcases Bool.or_eq_true_iff.1 h with h | h
    · exact hv _ _ _ _ h
    · exact (hn _ _ _ _ _ h).elim
  split at h
  · rcases Bool.or_eq_true_iff.1 h with h | h
    · exact hv _ _ _ _ h
    · exact (hn _ _ _ _ _ h).elim
  rcases Bool.or_eq_true_iff.1 h with h | h
  · exact hv _ _ _ _ h
  · exact (hs _ _ _ h).elim
theorem askR_mem {ks : List Bool} : ∀ (args : List Arg) (ps : List ByteArray), args.length = ps.length → askR ks args ps = true → ∀ a ∈ args, ∃ c, a.l.all (asksB c ks) = true
  | [], _, _, _, a, h => by cases h
  | x :: args, [], hl, _, _, _ => by simp at hl
  | x :: args, p :: ps, hl, h, a, ha => by
    rw [askR] at h
    split at h
    · rename_i hx
      rcases List.mem_cons.1 ha with rfl | ha
      · exact ⟨_, hx⟩
      · exact askR_mem args ps (by simpa using hl) h a ha
    · cases h
theorem compact_mem {l : List Int} {k : Int} (h : k ∈ Lib.compact l) : k ∈ l := by
  simp only [Lib.compact, Lib.compactUpTo, List.mem_map, List.mem_filter, List.mem_range] at h
  obtain ⟨i, ⟨hi, _⟩, rfl⟩ := h
  simp [hi]
theorem vars_mem {args : List Arg} {k : Int} (h : k ∈ varsL args) : ∃ a ∈ args, ∃ t ∈ a.l, t.var = k ∧ 0 ≤ k := by
  have h1 := compact_mem h
  rw [sortI, List.mem_mergeSort, List.mem_flatMap] at h1
  obtain ⟨a, ha, hk⟩ := h1
  simp only [varsRaw, List.mem_filter, List.mem_map, decide_eq_true_eq] at hk
  obtain ⟨⟨t, ht, rfl⟩, h0⟩ := hk
  exact ⟨a, ha, t, ht, rfl, h0⟩
theorem right_zero {name : ByteArray} {args : List Arg} {ks : List Bool} (h : rightE name args ks = 0) : (partsL (findR name).form).length = args.length ∧ headR args (partsL (findR name).form) = true ∧ longR args = false ∧ askR ks args (partsL (findR name).form) = true := by
  unfold rightE at h
  split at h; · cases h
  rename_i h1
  split at h; · cases h
  rename_i h2
  split at h; · cases h
  rename_i h3
  split at h; · cases h
  rename_i h4
  exact ⟨by simpa using h1, by simpa using h2, by simpa using h3, by simpa using h4⟩
theorem vars_in {name : ByteArray} {args : List Arg} {ks : List Bool} (h : rightE name args ks = 0) {k : Int} (hk : k ∈ varsL args) : 0 ≤ k ∧ k < ks.length := by
  obtain ⟨h1, _, _, h4⟩ := right_zero h
  obtain ⟨a, ha, t, ht, rfl, h0⟩ := vars_mem hk
  obtain ⟨c, hc⟩ := askR_mem args _ h1.symm h4 a ha
  exact ⟨h0, asks_var (List.all_eq_true.1 hc t ht) h0⟩
theorem long_le : ∀ {args : List Arg}, longR args = false → ∀ a ∈ args, a.l.length ≤ 1000
  | [], _, a, ha => by cases ha
  | x :: args, h, a, ha => by
    rw [longR, Bool.or_eq_false_iff, decide_eq_false_iff_not] at h
    rcases List.mem_cons.1 ha with rfl | ha
    · omega
    · exact long_le h.2 a ha
set_option maxRecDepth 100000 in
set_option maxHeartbeats 4000000 in
theorem tool_Holds {mf : Nat} {fam name : ByteArray} {args : List Arg} {vs : List Val} {b : Bool} {x : Int} (A : Option Addr) (c : Nat) (B : Option Addr) (d : Nat) (w : World) (hm : ML w)
    (ha : kArg.C w A args.length args) (hv : kVal.C w B vs.length vs) (hpl : plainB name = true) (htr : truthsL name = []) (hf : (findR name).form.size < 4294967281) (hne : (findR name).form.toList.isEmpty = false) (hp : ∀ p ∈ partsL (findR name).form, 1 ≤ p.size ∧ p.size ≤ 1000)
    (hpn : (partsL (findR name).form).length ≤ 1000) (HM : rightE name args (vs.map Val.set) = 0 → rightVars vs (varsL args) = true → MeansIs mf name (valuesL vs args) b x) (hvs : vs.length ≤ 1000000) :
    Calls Tryz.prog 43 #[.agg #[.string name, .slice A args.length c], .slice B vs.length d, .string fam, .func (.func mf) #[] #[]] w fun e w' => e = .returned (.tuple #[.bool (HoldsL fam name args vs b x).1, .int .i64 (HoldsL fam name args vs b x).2]) ∧ Bel w w' := by
  obtain ⟨r, hr⟩ : ∃ r, HoldsL fam name args vs b x = r := ⟨_, rfl⟩
  rw [hr]
  unfold HoldsL at hr
  have HML := Lib.hid hm
  have HA := Lib.hid ha
  have HV := Lib.hid hv
  have HPL := Lib.hid hpl
  have HT := Lib.hid htr
  have HP := Lib.hid hp
  have HS := Lib.hid HM
  have HNE := Lib.hid hne
  clear hm ha hv hpl htr hp HM hne
  cases hfam : ((findR name).family.toList == fam.toList) with
  | false =>
    rw [if_pos hfam] at hr
    subst hr
    have hfam' := hfam
    go_enter Tryz.func43, Tryz.ntmps43
    go_wp2_with (go_at_call 86; refine (cons_Family name _).mono ?_; rintro e w1 ⟨rfl, HB1⟩)
    go_ret2
    exact ⟨rfl, Bel.trans inferInstance HB1⟩
  | true =>
    rw [if_neg (by simp [hfam])] at hr
    have hfam' := hfam
    have HR := Lib.hid hr
    clear hr hfam
    go_enter Tryz.func43, Tryz.ntmps43
    go_wp2_with fail
    refine (cons_Family name _).mono ?_
    rintro e w1 ⟨rfl, HB1⟩
    have b0 : w1.cell? ⟨w.heap.size, 0, none⟩ = some (.string name) := Bel.box HB1 rfl 0 rfl
    have b1 : w1.cell? ⟨w.heap.size, 1, none⟩ = some (.slice A args.length c) := Bel.box HB1 rfl 1 rfl
    have HB0 := Bel.trans (inferInstance : Bel w _) HB1
    clear HB1
    go_wp2_with fail
    go_loopw [10, 23] (fun v i wr => ∃ (k : Nat) (out : List Bool), k ≤ vs.length ∧ i = .int .i64 k ∧ out.length = k ∧ AccB w1 wr v out ∧ Hid (out ++ (vs.drop k).map Val.set = vs.map Val.set)) (fun _ i _ => vs.length - (intOf i).toNat)
    case atStart => exact ⟨0, [], by omega, rfl, by simp, inferInstance, Lib.hid (by simp)⟩
    case round =>
      obtain ⟨k, out, hk, rfl, ho, HO, HX⟩ := hrel
      by_cases hlt : k < vs.length
      · obtain ⟨y, hy⟩ : ∃ r, vs[k]? = some r := ⟨vs[k], List.getElem?_eq_getElem hlt⟩
        obtain ⟨bd, A2, c2, rfl, v0, v1, v2, hl2, hC2⟩ := Val.nth HV.out hy
        have HX' := HX.out
        rw [drop_at hy, List.map_cons] at HX'
        replace HX' := Lib.hid HX'
        replace v0 := HO.cell (HB0.cell v0)
        replace v1 := HO.cell (HB0.cell v1)
        replace v2 := HO.cell (HB0.cell v2)
        clear hy HX hC2
        go_wp2_with (at_builtin; refine AccB.app HO rfl rfl rfl rfl (by simp) inferInstance (by omega) ?_; intro v1 w2 HO2 hk2; clear hk2)
        go_roundw
        case rel => exact ⟨k + 1, _, by omega, by go_num, by simp; omega, HO2, Lib.hid (by have := HX'.out; simpa using this)⟩
        case measure => simp [intOf]; omega
      · obtain rfl : k = vs.length := by omega
        have hx := HX.out
        rw [List.drop_length, List.map_nil, List.append_nil] at hx
        obtain ⟨A2, c2, rfl, hl2, hr2⟩ := Acc.reads HO
        have HKS := Lib.hid hr2
        have HX' := Lib.hid hx
        have HBk := HB0.trans HO.bel
        replace b0 := HO.cell b0
        replace b1 := HO.cell b1
        clear hx hr2 HX ho
        go_wp2_with fail
        refine (cons_Right name _ _ args _ _ out _ (HML.out.bel HBk) (Kd.now HA.out HBk) HKS.out HPL.out hf HNE.out HP.out).mono ?_
        rintro e w2 ⟨rfl, HB2⟩
        rw [HX'.out]
        replace b0 := HB2.cell b0
        replace b1 := HB2.cell b1
        replace HBk := HBk.trans HB2
        obtain ⟨re, hre⟩ : ∃ re, rightE name args (vs.map Val.set) = re := ⟨_, rfl⟩
        rw [hre]
        have hr := HR.out
        rw [hre] at hr
        by_cases h0 : re = 0
        · subst h0
          rw [if_neg (by simp)] at hr
          have hz := right_zero hre
          have HVI := Lib.hid (fun k hk => vars_in hre (k := k) hk)
          have HL := Lib.hid (long_le hz.2.2.1)
          have hal : args.length ≤ 1000 := by rw [← hz.1]; exact hpn
          have HE := Lib.hid hre
          have HR2 := Lib.hid hr
          clear hr hre hz
          go_wp2_with fail
          refine (cons_Vars name _ _ args _ (Kd.now HA.out HBk) HL.out hal).mono ?_
          rintro e w3 ⟨v3, rfl, HO3⟩
          obtain ⟨A3, c3, rfl, hl3, hr3⟩ := Acc.reads HO3
          have HR3 := Lib.hid hr3
          replace b0 := HO3.cell b0
          replace b1 := HO3.cell b1
          replace HBk := HBk.trans HO3.bel
          clear hr3
          generalize hvl : varsL args = vl at *
          have HVL := Lib.hid hvl
          have hvn := C_len HR3.out
          clear hvl HX' HKS
          go_wp2_with fail
          go_loopw [42] (fun i wr => ∃ (k : Nat), k ≤ vl.length ∧ i = .int .i64 k ∧ Hid (rightVars vs (vl.drop k) = rightVars vs vl) ∧ Bel w3 wr) (fun i _ => vl.length - (intOf i).toNat)
          case atStart => exact ⟨0, by omega, rfl, Lib.hid (by simp), inferInstance⟩
          case round =>
            obtain ⟨k, hk, rfl, HX, HB4⟩ := hrel
            by_cases hlt : k < vl.length
            · obtain ⟨z, hz⟩ : ∃ r, vl[k]? = some r := ⟨vl[k], List.getElem?_eq_getElem hlt⟩
              have hzi := HVI.out z (List.mem_of_getElem? hz)
              obtain ⟨q, rfl⟩ : ∃ q : Nat, z = (q : Int) := ⟨z.toNat, by omega⟩
              have hq : q < vs.length := by have := hzi.2; simp at this; omega
              have hqi : (q : Int) < (vs.length : Int) := by omega
              obtain ⟨y, hy⟩ : ∃ r, vs[q]? = some r := ⟨vs[q], List.getElem?_eq_getElem hq⟩
              obtain ⟨zd, rfl, z0⟩ := Int.nth HR3.out hz
              obtain ⟨bd, A5, c5, rfl, v0, v1, v2, hl5, hC5⟩ := Val.nth HV.out hy
              have HC5 := Lib.hid hC5
              have HX2 := HX.out
              rw [drop_at hz, rightVars, Int.toNat_natCast, List.getD_eq_getElem?_getD, hy, Option.getD_some] at HX2
              replace z0 := HB4.cell z0
              have hBw := HBk.trans HB4
              replace v0 := hBw.cell v0
              replace v1 := hBw.cell v1
              replace v2 := hBw.cell v2
              clear hzi hz hy hC5 HX
              cases hrv : rightValB y with
              | true =>
                rw [hrv, if_pos rfl] at HX2
                replace HX2 := Lib.hid HX2
                have HY := Lib.hid hrv
                clear hrv
                go_wp2_with fail
                refine (tool_rightVal y _ _ _ (Kd.now HC5.out hBw)).mono ?_
                rintro e w5 ⟨rfl, HB5⟩
                rw [HY.out]
                go_wp2
                go_roundw
                case rel => exact ⟨k + 1, by omega, by go_num, HX2, HB4.trans HB5⟩
                case measure => simp [intOf]; omega
              | false =>
                rw [hrv, if_neg (by simp)] at HX2
                have hr := HR2.out
                rw [if_pos HX2.symm] at hr
                subst hr
                have HY := Lib.hid hrv
                clear hrv HX2 HR2
                go_wp2_with fail
                refine (tool_rightVal y _ _ _ (Kd.now HC5.out hBw)).mono ?_
                rintro e w5 ⟨rfl, HB5⟩
                rw [HY.out]
                go_wp2
                go_ret2
                exact ⟨rfl, hBw.trans HB5⟩
            · obtain rfl : k = vl.length := by omega
              have hx := HX.out
              rw [List.drop_length, rightVars] at hx
              have hr := HR2.out
              rw [← hx, if_neg (by simp)] at hr
              subst hr
              have HMI := Lib.hid (HS.out HE.out hx.symm)
              have c0 := HB4.cell b0
              have c1 := HB4.cell b1
              have hBw := HBk.trans HB4
              clear hx HX b0 b1 HR2
              go_wp2_with fail
              refine (tool_holds HMI.out _ _ _ _ _ (HML.out.bel hBw) (Kd.now HA.out hBw) (Kd.now HV.out hBw) HL.out hal HT.out hf (fun p hp => (HP.out p hp).2)).mono ?_
              rintro e w6 ⟨rfl, HB6⟩
              go_wp2
              go_ret2
              exact ⟨rfl, hBw.trans HB6⟩
        · clear HKS HX' HO
          rw [if_pos h0] at hr
          subst hr
          go_wp2
          go_ret2
          exact ⟨rfl, HBk⟩
end Go.Proofs.YtkdedpofghlmoaaGreatDoor
