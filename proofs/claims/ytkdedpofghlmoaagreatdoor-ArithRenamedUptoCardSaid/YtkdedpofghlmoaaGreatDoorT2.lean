/- The walk of tool.holds at constraints without truths, over any meaning. No statement is proved here. -/
import Derived.Test.YtkdedpofghlmoaaGreatDoorT1
import Derived.Test.YtkdedpofghlmoaaGreatDoorV1
set_option linter.unusedVariables false
set_option linter.unusedSimpArgs false
namespace Go.Proofs.YtkdedpofghlmoaaGreatDoor
open Go.RowKit Go.Proofs.YtkdedpofghlmoaaGreatDoorW.PrintWords
/-- A function that says what a constraint means, at one name and one row of values. -/
structure MeansIs (mf : Nat) (name : ByteArray) (vals : List (List Val)) (b : Bool) (e : Int) : Prop where
  call : ∀ args w, (callFunc mf args).run Tryz.prog w = .ok (.enter mf args) w
  says : ∀ (A : Option Addr) (c : Nat) (w : World), vals.length ≤ c → (Kd.slice 53 kVal).C w A vals.length vals → Calls Tryz.prog mf #[.string name, .slice A vals.length c] w fun e' w' => e' = .returned (.tuple #[.bool b, .int .i64 e]) ∧ Bel w w'
set_option maxHeartbeats 1000000 in
theorem tool_holds {mf : Nat} {name : ByteArray} {args : List Arg} {vs : List Val} {b : Bool} {x : Int} (HM : MeansIs mf name (valuesL vs args) b x) (A : Option Addr) (c : Nat) (B : Option Addr) (d : Nat) (w : World) (hm : ML w)
    (ha : kArg.C w A args.length args) (hv : kVal.C w B vs.length vs) (hl : ∀ a ∈ args, a.l.length ≤ 1000) (hn : args.length ≤ 1000) (htr : truthsL name = []) (hf : (findR name).form.size < 4294967281) (hp : ∀ p ∈ partsL (findR name).form, p.size ≤ 1000) :
    Calls Tryz.prog 90 #[.agg #[.string name, .slice A args.length c], .slice B vs.length d, .func (.func mf) #[] #[]] w fun e' w' => e' = .returned (.tuple #[.bool b, .int .i64 x]) ∧ Bel w w' := by
  have hcall := HM.call
  have HS := Lib.hid HM.says
  have HML := Lib.hid hm
  have HA := Lib.hid ha
  have HV := Lib.hid hv
  have HL := Lib.hid hl
  have HT := Lib.hid htr
  have HP := Lib.hid hp
  clear HM hm ha hv hl htr hp
  go_enter Tryz.func90, Tryz.ntmps90
  go_wp2_with fail
  refine (tool_values name _ _ args _ _ vs _ (Kd.now HA.out inferInstance) (Kd.now HV.out inferInstance) HL.out hn).mono ?_
  rintro e1 w1 ⟨A1, c1, rfl, hl1, hr1, HB1⟩
  have HR1 := Lib.hid hr1
  have c0 := Bel.box HB1 rfl 0 rfl
  have HB01 := Bel.trans (inferInstance : Bel w _) HB1
  clear hr1
  go_wp2_with fail
  refine (tool_truths name _ (HML.out.bel HB01) hf HP.out).mono ?_
  rintro e2 w2 ⟨A2, c2, rfl, hl2, hr2, HB2⟩
  rw [HT.out] at hl2 hr2 ⊢
  replace c0 := HB2.cell c0
  clear hr2 hl2
  go_wp2_with fail
  refine wp_loop_once ?_
  go_wp2_with fail
  refine (HS.out _ _ _ hl1 (Kd.now HR1.out HB2)).mono ?_
  rintro e3 w3 ⟨rfl, HB3⟩
  go_wp2
  go_ret2
  exact ⟨rfl, (HB01.trans HB2).trans HB3⟩
end Go.Proofs.YtkdedpofghlmoaaGreatDoor
