/- The walks of cons.Of, tool.values, tool.rightVal. No statement is proved here. -/
import Derived.Test.YtkdedpofghlmoaaGreatDoorV0
import Derived.Laws.ResultCell
import Derived.Handy
set_option linter.unusedVariables false
set_option linter.unusedSimpArgs false
namespace Go.Proofs.YtkdedpofghlmoaaGreatDoor
open Go.RowKit Go.Proofs.YtkdedpofghlmoaaGreatDoorW.PrintWords
def ofT (vs : List Val) (t : Term) : Val × Int := if t.var = -1 then (t.c, 0) else if t.var < 0 ∨ vs.length ≤ t.var then (⟨false, 0, []⟩, 1) else (vs.getD t.var.toNat ⟨false, 0, []⟩, 0)
def RetVal (u : World) (x : Val × Int) (w : World) (e : Ending) (w' : World) : Prop := ∃ A c, e = .returned (.tuple #[.agg #[.bool x.1.set, .int .i64 x.1.n, .slice A x.1.s.length c], .int .i64 x.2]) ∧ x.1.s.length ≤ c ∧ (Kd.int .i64).C u A x.1.s.length x.1.s ∧ Bel w w'
set_option maxHeartbeats 1000000 in
theorem cons_Of (t : Term) (A : Option Addr) (c : Nat) (B : Option Addr) (d : Nat) (vs : List Val) (u w : World) (hb : Bel u w) (hc : t.c.s.length ≤ c) (hr : (Kd.int .i64).C u A t.c.s.length t.c.s) (hv : kVal.C u B vs.length vs) :
    Calls Tryz.prog 230 #[.agg #[.int .i64 t.var, .bool t.c.set, .int .i64 t.c.n, .slice A t.c.s.length c], .slice B vs.length d] w (RetVal u (ofT vs t) w) := by
  unfold ofT
  have HR := Lib.hid hr
  have HV := Lib.hid hv
  clear hr hv
  obtain ⟨v, ⟨st, n, s⟩⟩ := t
  by_cases h1 : v = -1
  · subst h1
    rw [if_pos rfl]
    go_enter Tryz.func230, Tryz.ntmps230
    go_wp2
    go_returns
    exact ⟨A, c, rfl, hc, HR.out, inferInstance⟩
  · have h1' : (v == -1) = false := by simpa using h1
    rw [if_neg h1]
    by_cases h2 : v < 0
    · rw [if_pos (.inl h2)]
      go_enter Tryz.func230, Tryz.ntmps230
      go_wp2
      go_returns
      exact ⟨none, 0, rfl, Nat.zero_le _, Kd.C_nil _ _, inferInstance⟩
    · by_cases h3 : (vs.length : Int) ≤ v
      · rw [if_pos (.inr h3)]
        go_enter Tryz.func230, Tryz.ntmps230
        go_wp2
        go_returns
        exact ⟨none, 0, rfl, Nat.zero_le _, Kd.C_nil _ _, inferInstance⟩
      · rw [if_neg (by show ¬ (v < 0 ∨ (vs.length : Int) ≤ v); omega)]
        obtain ⟨k, rfl⟩ : ∃ k : Nat, v = (k : Int) := ⟨v.toNat, by omega⟩
        obtain ⟨x, hx⟩ : ∃ x, vs[k]? = some x := ⟨vs[k]'(by omega), List.getElem?_eq_getElem (by omega)⟩
        have HG := Lib.hid (show vs.getD k ⟨false, 0, []⟩ = x by rw [List.getD_eq_getElem?_getD, hx]; rfl)
        obtain ⟨bd, A2, c2, rfl, c0, d0, e0, hl2, hC2⟩ := Val.nth HV.out hx
        have HC2 := Lib.hid hC2
        clear hx hC2
        replace c0 : ∀ (W : World) [Bel w W], W.cell? _ = some _ := fun W h => h.cell (hb.cell c0)
        replace d0 : ∀ (W : World) [Bel w W], W.cell? _ = some _ := fun W h => h.cell (hb.cell d0)
        replace e0 : ∀ (W : World) [Bel w W], W.cell? _ = some _ := fun W h => h.cell (hb.cell e0)
        rw [Int.toNat_natCast, HG.out]
        go_enter Tryz.func230, Tryz.ntmps230
        go_wp2
        go_returns
        exact ⟨A2, c2, rfl, hl2, HC2.out, inferInstance⟩
def rightValB (x : Val) : Bool := if x.set then decide (x.n = 0) && SetB x.s else decide (x.s.length = 0) && decide (-1000000 ≤ x.n) && decide (x.n ≤ 1000000)
set_option maxHeartbeats 1000000 in
theorem tool_rightVal (x : Val) (A : Option Addr) (c : Nat) (w : World) (hr : (Kd.int .i64).C w A x.s.length x.s) :
    Calls Tryz.prog 89 #[.agg #[.bool x.set, .int .i64 x.n, .slice A x.s.length c]] w fun e w' => e = .returned (.bool (rightValB x)) ∧ Bel w w' := by
  have HR := Lib.hid hr
  clear hr
  obtain ⟨st, n, s⟩ := x
  unfold rightValB
  cases st with
  | true =>
    by_cases h2 : n = 0
    · subst h2
      go_enter Tryz.func89, Tryz.ntmps89
      go_wp2_with (go_at_call 157; refine (sets_Set _ _ _ _ (Kd.now HR.out inferInstance)).mono ?_; rintro e w1 ⟨rfl, HB1⟩)
      go_ret
      exact ⟨ret_b (by simp), Bel.trans inferInstance HB1⟩
    · have h2' : (n == 0) = false := by simpa using h2
      go_enter Tryz.func89, Tryz.ntmps89
      go_wp2
      go_ret
      exact ⟨ret_b (by simp [h2]), inferInstance⟩
  | false =>
    by_cases h1 : s.length = 0
    · have h1' : ((s.length : Int) == 0) = true := by simpa using h1
      by_cases h2 : -1000000 ≤ n
      · by_cases h3 : n ≤ 1000000
        · go_enter Tryz.func89, Tryz.ntmps89; go_wp2; go_ret; exact ⟨ret_b (by simp [h1, h2, h3]), inferInstance⟩
        · go_enter Tryz.func89, Tryz.ntmps89; go_wp2; go_ret; exact ⟨ret_b (by simp [h1, h2, h3]), inferInstance⟩
      · go_enter Tryz.func89, Tryz.ntmps89; go_wp2; go_ret; exact ⟨ret_b (by simp [h1]; omega), inferInstance⟩
    · have h1' : ((s.length : Int) == 0) = false := by simpa using h1
      go_enter Tryz.func89, Tryz.ntmps89; go_wp2; go_ret; exact ⟨ret_b (by simp [h1]), inferInstance⟩
def valuesL (vs : List Val) (args : List Arg) : List (List Val) := args.map fun a => a.l.map fun t => (ofT vs t).1
set_option maxRecDepth 100000 in
set_option maxHeartbeats 2000000 in
theorem tool_values (name : ByteArray) (A : Option Addr) (c : Nat) (args : List Arg) (B : Option Addr) (d : Nat) (vs : List Val) (w : World) (ha : kArg.C w A args.length args) (hv : kVal.C w B vs.length vs) (hl : ∀ a ∈ args, a.l.length ≤ 1000) (hn : args.length ≤ 1000) :
    Calls Tryz.prog 158 #[.agg #[.string name, .slice A args.length c], .slice B vs.length d] w (RetS (Kd.slice 53 kVal) (valuesL vs args) w) := by
  have HA := Lib.hid ha
  have HV := Lib.hid hv
  have HL := Lib.hid hl
  clear ha hv hl
  go_enter Tryz.func158, Tryz.ntmps158
  go_wp2_with fail
  go_loopw [5, 16] (fun v i wr => ∃ (k : Nat) (out : List (List Val)), k ≤ args.length ∧ i = .int .i64 k ∧ out.length = k ∧ AccVV w w wr v out ∧ Hid (out ++ valuesL vs (args.drop k) = valuesL vs args)) (fun _ i _ => args.length - (intOf i).toNat)
  case atStart => exact ⟨0, [], by omega, rfl, rfl, inferInstance, Lib.hid (by simp)⟩
  case round =>
    obtain ⟨k, out, hk, rfl, ho, HO, HX⟩ := hrel
    by_cases hlt : k < args.length
    · obtain ⟨a, hr⟩ : ∃ r, args[k]? = some r := ⟨args[k], List.getElem?_eq_getElem hlt⟩
      obtain ⟨ad, A1, c1, rfl, e0, e1, hl1, hC1⟩ := Arg.nth HA.out hr
      have HC1 := Lib.hid hC1
      have hal := HL.out a (List.mem_of_getElem? hr)
      have HX' := HX.out
      rw [drop_at hr, valuesL, List.map_cons] at HX'
      replace HX' := Lib.hid HX'
      replace e0 := HO.cell e0
      replace e1 := HO.cell e1
      clear hr HX hC1
      go_wp2_with fail
      obtain ⟨wz, hwz⟩ : ∃ wz, wr.alloc (.cells #[.bool a.array, .slice A1 a.l.length c1] 62) = wz := ⟨_, rfl⟩
      have f1 := Bel.box (W := wz) (w := wr) (cs := #[.bool a.array, .slice A1 a.l.length c1]) (t := 62) (hwz ▸ inferInstance) rfl 1 rfl
      have HOz := HO.later (hwz ▸ inferInstance : Bel wr wz)
      rw [hwz]
      go_loopw [8, 23] (fun u i wr => ∃ (j : Nat) (row : List Val), j ≤ a.l.length ∧ i = .int .i64 j ∧ row.length = j ∧ AccV w wz wr u row ∧ Hid (row ++ (a.l.drop j).map (fun t => (ofT vs t).1) = a.l.map fun t => (ofT vs t).1)) (fun _ i _ => a.l.length - (intOf i).toNat)
      case atStart => exact ⟨0, [], by omega, rfl, rfl, inferInstance, Lib.hid (by simp)⟩
      case round =>
        obtain ⟨j, row, hj, rfl, hro, HI, HY⟩ := hrel
        by_cases hlj : j < a.l.length
        · obtain ⟨t, hr⟩ : ∃ r, a.l[j]? = some r := ⟨a.l[j], List.getElem?_eq_getElem hlj⟩
          obtain ⟨td, A3, c3, rfl, t0, t1, t2, t3, hl3, hC3⟩ := Term.nth HC1.out hr
          have HC3 := Lib.hid hC3
          have HY' := HY.out
          rw [drop_at hr, List.map_cons] at HY'
          replace HY' := Lib.hid HY'
          replace t0 := HI.cell (HOz.cell t0)
          replace t1 := HI.cell (HOz.cell t1)
          replace t2 := HI.cell (HOz.cell t2)
          replace t3 := HI.cell (HOz.cell t3)
          have hBw : Bel w wr := HOz.bel.trans HI.bel
          clear hr HY hC3
          go_wp2_with fail
          refine (cons_Of t _ _ _ _ vs w _ (hBw.trans inferInstance) hl3 HC3.out HV.out).mono ?_
          rintro e w1 ⟨A4, c4, rfl, hl4, hC4, HB1⟩
          have HC4 := Lib.hid hC4
          have HI1 := HI.later (Bel.trans inferInstance HB1)
          clear hC4
          go_wp2_with (at_builtin; refine AccV.app HI1 rfl rfl rfl rfl (by simp) inferInstance hl4 HC4.out (by omega) ?_; intro v1 w2 HO2 hk2; clear hk2)
          go_roundw
          case rel => exact ⟨j + 1, _, by omega, by go_num, by simp; omega, HO2, Lib.hid (by have := HY'.out; simpa using this)⟩
          case measure => simp [intOf]; omega
        · obtain rfl : j = a.l.length := by omega
          have hy := HY.out
          rw [List.drop_length, List.map_nil, List.append_nil] at hy
          subst hy
          obtain ⟨Ai, ci, rfl⟩ := HI.len
          simp only [List.length_map] at HI
          go_wp2_with (at_builtin; refine AccVV.app HOz HI rfl rfl rfl rfl (by simp) inferInstance inferInstance (by omega) ?_; intro v1 w2 HO2 hk2; clear hk2)
          go_roundw
          case rel => exact ⟨k + 1, _, by omega, by go_num, by simp; omega, HO2, Lib.hid (by have := HX'.out; simpa [valuesL] using this)⟩
          case measure => simp [intOf]; omega
    · go_wp2
      go_ret
      obtain rfl : k = args.length := by omega
      have hx := HX.out
      rw [List.drop_length, valuesL, List.map_nil, List.append_nil] at hx
      subst hx
      obtain ⟨A2, c2, rfl, h2, h3⟩ := Acc.reads HO
      exact ⟨A2, c2, rfl, h2, kRowO_C h3 HO.bel, HO.bel⟩
end Go.Proofs.YtkdedpofghlmoaaGreatDoor
